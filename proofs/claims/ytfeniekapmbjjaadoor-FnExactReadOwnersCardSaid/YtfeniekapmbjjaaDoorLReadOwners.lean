/- The law FnExactReadOwners, walked: the program and the reference answer the same. No condition but what the library's variables hold. -/
import Derived.Test.YtfeniekapmbjjaaDoorEQ
import Derived.Test.YtfeniekapmbjjaaDoorRO3
namespace Go.Proofs.YtfeniekapmbjjaaDoor
open Go.RowKit Go.Proofs.YtfeniekapmbjjaaDoorW.PrintWords Go.Proofs.YtfeniekapmbjjaaDoorW.PrintLast Go.Proofs.YtfeniekapmbjjaaDoorW.PrintMore Go.Proofs.YtfeniekapmbjjaaDoor.PAll
set_option linter.unusedSimpArgs false
set_option linter.unusedVariables false

theorem rowO_okw {y : Nat} {os os2 : List Int} {l : List ByteArray} {x : Nat} (h : OsOk os) (e : rowO y os x l = some os2) : OsOk os2 := rowO_ok l os os2 x h e
theorem linesO_ok {wide : Int} : ∀ (l : List ByteArray) (os os2 : List Int) (y : Nat), OsOk os → linesO wide os y l = some os2 → OsOk os2
  | [], os, os2, y, h, e => by simp only [linesO] at e; cases e; exact h
  | s :: l, os, os2, y, h, e => by
    simp only [linesO] at e
    split at e
    · cases e
    · cases hr : rowO y os 0 (cutS 32 s) with
      | none => rw [hr] at e; cases e
      | some o =>
        rw [hr] at e
        exact linesO_ok l o os2 (y + 1) (rowO_ok _ _ _ _ h hr) e
theorem zown_ok : OsOk zown := ⟨zown_len, fun z hz => by have := List.eq_of_mem_replicate hz; subst this; decide⟩
/-- What is read: a field, owners and a code. -/
theorem own_parts (t : ByteArray) : ∃ (F : Fld) (os : List Int) (c : Int), F.Ok ∧ os.length = 100 ∧ readOut2 (sOwn t) = .tuple #[.agg F.vals.toArray, .agg (vrow .i8 os).toArray, .int .i64 c] := by
  cases h : sOwn t with
  | none => exact ⟨zfld, zown, 5, zfld_ok, zown_len, rfl⟩
  | some p =>
    obtain ⟨F, os⟩ := p
    refine ⟨F, os, 0, ?_, ?_, rfl⟩
    · unfold sOwn at h
      split at h
      · cases h
      · cases hr : sRead (t.extract (lensOf (upTo (cutS 10 t)) + 1) t.size) with
        | none => rw [hr] at h; cases h
        | some G =>
          rw [hr] at h
          have h : ownersOf (upTo (cutS 10 t)) G = some (F, os) := h
          unfold ownersOf at h
          split at h
          · cases h
          · cases hl : linesO G.wide bareO 0 (upTo (cutS 10 t)) with
            | none => rw [hl] at h; cases h
            | some o => rw [hl] at h; cases h; exact (sRead_full hr).1
    · unfold sOwn at h
      split at h
      · cases h
      · cases hr : sRead (t.extract (lensOf (upTo (cutS 10 t)) + 1) t.size) with
        | none => rw [hr] at h; cases h
        | some G =>
          rw [hr] at h
          have h : ownersOf (upTo (cutS 10 t)) G = some (F, os) := h
          unfold ownersOf at h
          split at h
          · cases h
          · cases hl : linesO G.wide bareO 0 (upTo (cutS 10 t)) with
            | none => rw [hl] at h; cases h
            | some o => rw [hl] at h; cases h; exact (linesO_ok _ _ _ _ bareO_ok hl).len
/-- Two blocks laid after a call: a field's and owners'. -/
theorem pair_laid (w1 : World) (F : Fld) (os : List Int) (h : os.length = 100) (hF : F.Ok) :
    Cls w1 [(w1.heap.size, F.vals, 30), (w1.heap.size + 1, vrow .i8 os, 32)] ((((w1.alloc (.cells zfld.vals.toArray 30)).alloc (.cells (vrow .i8 zown).toArray 32)).setRow w1.heap.size F.vals.toArray).setRow (w1.heap.size + 1) (vrow .i8 os).toArray) := by
  have h0 := ((Two.start w1).row F).row2 os
  refine ⟨h0.b, fun x hx => ?_⟩
  simp only [List.mem_cons, List.not_mem_nil, or_false] at hx
  rcases hx with rfl | rfl
  · exact h0.f
  · exact h0.o
theorem op_load_blk {P : Program} {op : Oper} {a : Act} {w : World} {K : Act → World → Prop} {Q : Exit → Act → World → Prop} {T : TypeId} (ty : TypeId) (x : Operand) (ho : op.op = .load ty x)
    (b : Nat) (hx : a.eval x = .pointer (some ⟨b, 0, none⟩)) (ds : List Value) (d : TypeDesc) (hB : Blk w b ds T) (hu : P.underlying ty = some d) (hd : d.isRow = true) (hi : (P.info? ty).map (·.size) = some ds.length)
    (h : K (a.put op.dst (.agg ds.toArray)) w) : Oper.wp P op a w K Q :=
  wp_load_mid ty x ho b 0 hx ds d (hB.range 0 (by rw [List.drop_zero, List.take_length])) hu hd hi h
namespace LReadOwners
set_option maxRecDepth 100000 in
set_option maxHeartbeats 4000000 in
theorem walk (t : ByteArray) (w : World) (hG : Glob w) :
    Calls Tryd.prog 4 #[.string t] w fun e w' => e = .returned (.bool true) ∧ Below w.heap.size w w' := by
  by_cases hs : t.size ≤ 1048576
  case neg =>
    have f0 : decide (1048576 < (t.size : Int)) = true := decide_eq_true (by omega)
    go_enter Tryd.func4, Tryd.ntmps4
    go_wp2
    go_ret
    exact ⟨rfl, Below.refl _ _⟩
  have f0 : decide (1048576 < (t.size : Int)) = false := decide_eq_false (by omega)
  have hz := zero_field
  have hz2 := zero_own
  obtain ⟨F, os, c, hF, hos, hP⟩ := own_parts t
  have HS := Lib.hid (fun w1 => sReadOwners_long t hs w1)
  have HI := Lib.hid (fun w1 (h : Below w.heap.size w w1) => iReadOwners_any t hs w1 (hG.below h))
  rw [own_same] at HI
  rw [hP] at HS HI
  have HF := Lib.hid hF
  have HL := Lib.hid hos
  have HFl := Lib.hid hF.len
  clear hF hos hP hG
  have hfl : (vrow .i8 os).length = 100 := by rw [vrow_len, HL.out]
  have hFl := HFl.out
  go_enter Tryd.func4, Tryd.ntmps4
  go_upto_region 4 with (first
    | (go_at_call 9; refine (HS.out _).mono ?_; rintro e w1 ⟨rfl, hb⟩; have HBw1 := Lib.hid (hb); have hst1 := run_storeCells_blk (P := Tryd.prog) (Two.start w1).f (vs := F.vals) (by rw [HFl.out, zfld_ok.len]) F.one; have hst2 := run_storeCells_blk (P := Tryd.prog) ((Two.start w1).row F).o (vs := vrow .i8 os) (by rw [vrow_len, vrow_len, HL.out, zown_len]) (vrow_one _ _); clear hb))
  have HC1 := Lib.hid (pair_laid w1 F os HL.out HF.out)
  have hlt1 : w1.heap.size < w1.heap.size + 1 := Nat.lt_succ_self _
  generalize hW1 : ((((w1.alloc (.cells zfld.vals.toArray 30)).alloc (.cells (vrow .i8 zown).toArray 32)).setRow w1.heap.size F.vals.toArray).setRow (w1.heap.size + 1) (vrow .i8 os).toArray) = W1 at HC1 ⊢
  clear hW1 hst1 hst2
  have HD1 := Lib.hid (HBw1.out.trans (HC1.out.below.mono HBw1.out.size))
  go_upto_region 5 with (first
    | (go_at_call 10; refine (HI.out _ HD1.out).mono ?_; rintro e w2 ⟨rfl, hb⟩; have HBw2 := Lib.hid (hb); have hst1 := run_storeCells_blk (P := Tryd.prog) (Two.start w2).f (vs := F.vals) (by rw [HFl.out, zfld_ok.len]) F.one; have hst2 := run_storeCells_blk (P := Tryd.prog) ((Two.start w2).row F).o (vs := vrow .i8 os) (by rw [vrow_len, vrow_len, HL.out, zown_len]) (vrow_one _ _); clear hb))
  have HC2 := Lib.hid (pair_laid w2 F os HL.out HF.out)
  generalize hW2 : ((((w2.alloc (.cells zfld.vals.toArray 30)).alloc (.cells (vrow .i8 zown).toArray 32)).setRow w2.heap.size F.vals.toArray).setRow (w2.heap.size + 1) (vrow .i8 os).toArray) = W2 at HC2 ⊢
  clear hW2 hst1 hst2
  have HD2 := Lib.hid (HD1.out.trans ((HBw2.out.trans (HC2.out.below.mono HBw2.out.size)).mono HD1.out.size))
  have HC : Hid (Cls w [(w1.heap.size, F.vals, 30), (w1.heap.size + 1, vrow .i8 os, 32), (w2.heap.size, F.vals, 30), (w2.heap.size + 1, vrow .i8 os, 32)] W2) := Lib.hid ⟨HD2.out, fun x hx => by
    have h1 := HC1.out.step (HBw2.out.trans (HC2.out.below.mono HBw2.out.size))
    simp only [List.mem_cons, List.not_mem_nil, or_false] at hx
    rcases hx with rfl | rfl | rfl | rfl
    · exact h1.blk _ (by simp)
    · exact h1.blk (w1.heap.size + 1, vrow .i8 os, 32) (by simp)
    · exact HC2.out.blk _ (by simp)
    · exact HC2.out.blk (w2.heap.size + 1, vrow .i8 os, 32) (by simp)⟩
  clear HC1 HC2 HD1 HD2 HBw1 HBw2
  have hcc : (c != c) = false := by simp
  go_wp2_with (first
    | ((with_reducible refine gate_op (.load 30 (.tmp 6)) rfl ?_); with_reducible refine wpList_load_blk rfl 30 (.tmp 6) rfl (w2.heap.size) 0 (by kernel_rfl) (F.vals) _ (HC.out.blk (w2.heap.size, F.vals, 30) (by simp)) (by rw [List.drop_zero, List.take_length]) Tryd.underlying30 rfl (by rw [hFl]; kernel_rfl) ?_)
    | ((with_reducible refine gate_op (.load 30 (.tmp 3)) rfl ?_); with_reducible refine wpList_load_blk rfl 30 (.tmp 3) rfl (w1.heap.size) 0 (by kernel_rfl) (F.vals) _ (HC.out.blk (w1.heap.size, F.vals, 30) (by simp)) (by rw [List.drop_zero, List.take_length]) Tryd.underlying30 rfl (by rw [hFl]; kernel_rfl) ?_)
    | (go_at_call 11; (with_reducible refine (eqField_any _ HF.out _).mono ?_); rintro e w4 ⟨rfl, hb⟩; have HC4 := Lib.hid (HC.out.step hb); clear HC; have HC := HC4; clear HC4 hb))
  refine op_load_blk (T := 32) 32 (.tmp 7) rfl (w2.heap.size + 1) (by kernel_rfl) (vrow .i8 os) _ (HC.out.blk (w2.heap.size + 1, vrow .i8 os, 32) (by simp)) Tryd.underlying32 rfl (by rw [hfl]; kernel_rfl) ?_
  simp only [Act.put, List.setIfInBounds_toArray, List.set_cons_zero, List.set_cons_succ]
  go_wp2
  refine op_load_blk (T := 32) 32 (.tmp 4) rfl (w1.heap.size + 1) (by kernel_rfl) (vrow .i8 os) _ (HC.out.blk (w1.heap.size + 1, vrow .i8 os, 32) (by simp)) Tryd.underlying32 rfl (by rw [hfl]; kernel_rfl) ?_
  simp only [Act.put, List.setIfInBounds_toArray, List.set_cons_zero, List.set_cons_succ]
  go_wp2_with (first
    | (go_at_call 12; (with_reducible refine (eqOwn_any _ _ HL.out HL.out rfl _).mono ?_); rintro e w5 ⟨rfl, hb⟩; have HC5 := Lib.hid (HC.out.step hb); clear hb))
  go_ret
  exact ⟨rfl, HC5.out.below⟩
end LReadOwners
end Go.Proofs.YtfeniekapmbjjaaDoor
