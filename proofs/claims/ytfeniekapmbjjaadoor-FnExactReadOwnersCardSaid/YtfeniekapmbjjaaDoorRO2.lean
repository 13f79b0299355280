/- Owners read, by the program. No condition but those that each theorem names. -/
import Derived.Test.YtfeniekapmbjjaaDoorRO1
namespace Go.Proofs.YtfeniekapmbjjaaDoor
open Go.RowKit Go.Proofs.YtfeniekapmbjjaaDoorW.PrintWords Go.Proofs.YtfeniekapmbjjaaDoorW.PrintLast Go.Proofs.YtfeniekapmbjjaaDoorW.PrintMore Go.Proofs.YtfeniekapmbjjaaDoor.PAll
set_option linter.unusedSimpArgs false
set_option linter.unusedVariables false

theorem zero_own (w : World) : (zeroValue 32).run Tryd.prog w = .ok (.agg (vrow .i8 zown).toArray) w := (zero_of_info (by kernel_rfl : (Tryd.prog.info? 32).map (fun i => (i.zero, i.size)) = some (some (.agg (vrow .i8 zown).toArray), 100))).1 w
theorem zown_len : zown.length = 100 := by simp [zown]
theorem iRead_ok {t : ByteArray} {F : Fld} (h : iRead t = some F) : F.Ok ∧ F.Valid := by
  unfold iRead at h
  split at h
  · cases h
  · rename_i hc
    cases hl : linesF false (Fld.tall ((cutS 10 t).length - 1)) 0 ((cutS 10 t).take ((cutS 10 t).length - 1)) with
    | none => rw [hl] at h; cases h
    | some G =>
      rw [hl] at h
      have h : keepF t G = some F := h
      by_cases hv : G.Valid ∧ fldText G = t
      · rw [keepF_yes hv.1 hv.2] at h
        cases h
        exact ⟨linesF_ok _ _ _ _ (tall_ok (by omega)) hl, hv.1⟩
      · rw [keepF_no hv] at h
        cases h
theorem cut_size (t : ByteArray) (h : t.size ≤ 1048576) : (cut1 t).size ≤ 1048576 ∧ (cut2 t).size ≤ 1048576 := by
  have e : t.data.toList.length = t.size := by rw [Lib.size_eq]
  have h1 : (Lib.cut t.data.toList [10, 10]).1.length ≤ t.size ∧ (Lib.cut t.data.toList [10, 10]).2.1.length ≤ t.size := by
    rw [← e]
    unfold Lib.cut
    split
    · exact ⟨by rw [List.length_take]; omega, by rw [List.length_drop]; omega⟩
    · exact ⟨Nat.le_refl _, Nat.zero_le _⟩
  refine ⟨?_, ?_⟩
  · show (Lib.cut t.data.toList [10, 10]).1.toArray.size ≤ _
    rw [List.size_toArray]
    omega
  · show (Lib.cut t.data.toList [10, 10]).2.1.toArray.size ≤ _
    rw [List.size_toArray]
    omega
theorem row_after {w w1 : World} {F : Fld} (hb : Below ((w.alloc (.cells zfld.vals.toArray 30)).setRow w.heap.size F.vals.toArray).heap.size ((w.alloc (.cells zfld.vals.toArray 30)).setRow w.heap.size F.vals.toArray) w1) : IsF w1 w.heap.size F := by
  have h := (Blk.new' w zfld.vals 30).row F.vals
  exact h.below hb h.lt
theorem k_load {P : Program} {a : Act} {w : World} {oi : Oper} {T : TypeId} (ty : TypeId) (x : Operand) (ho : oi.op = .load ty x) (b : Nat) (vs : List Value) (hx : a.eval x = .pointer (some ⟨b, 0, none⟩)) (hB : Blk w b vs T)
    {d : TypeDesc} (hu : P.underlying ty = some d) (hd : d.isRow = true) (his : (P.info? ty).map (·.size) = some vs.length) : (execOp a.eval oi).run P w = .ok (.value (.agg vs.toArray)) w := by
  have hr : w.rangeAt b 0 vs := hB.range 0 (by rw [List.drop_zero, List.take_length])
  unfold execOp
  simp only [ho, hx, Instr.loadAt, Instr.sureAddr, Sem.run_bind, Sem.run_pure, Result.andThen_ok, run_loadVar_mid w b 0 ty vs d hr hu hd his]
def fillO (i : Nat) : List Int := List.replicate i (-1) ++ List.replicate (100 - i) 0
theorem fillO_len {i : Nat} (h : i ≤ 100) : (fillO i).length = 100 := by simp [fillO]; omega
theorem fillO_set {i : Nat} (h : i < 100) : (vrow .i8 (fillO i)).set i (.int .i8 (-1)) = vrow .i8 (fillO (i + 1)) := by
  have e : (fillO i).set i (-1) = fillO (i + 1) := by
    unfold fillO
    obtain ⟨k, hk⟩ : ∃ k, 100 - i = k + 1 := ⟨99 - i, by omega⟩
    have hk2 : 100 - (i + 1) = k := by omega
    rw [hk, hk2, List.set_append_right _ _ (by simp), List.length_replicate, Nat.sub_self, List.replicate_succ, List.set_cons_zero, List.replicate_succ', List.append_assoc]
    rfl
  rw [← e]
  simp [vrow, List.map_set]
theorem fillO_end : fillO 100 = bareO := by simp [fillO, bareO]
theorem bareO_ok : OsOk bareO := ⟨by simp [bareO], fun z hz => by
  have := List.eq_of_mem_replicate hz; subst this; decide⟩
theorem osok_set {os : List Int} (h : OsOk os) {i : Nat} {v : Int} (h0 : 0 ≤ v) (h1 : v ≤ 9) : OsOk (os.set i v) := ⟨by rw [List.length_set]; exact h.len, fun z hz => by
  rcases List.mem_or_eq_of_mem_set hz with hz | rfl
  · exact h.b z hz
  · omega⟩
theorem vrow_set8 (os : List Int) (i : Nat) (v : Int) : (vrow .i8 os).set i (.int .i8 v) = vrow .i8 (os.set i v) := by simp [vrow, List.map_set]
/-- The two results' blocks, and what behind them comes. -/
structure Two (w w1 : World) (F : Fld) (os : List Int) : Prop where
  b : Below w.heap.size w w1
  f : Blk w1 w.heap.size F.vals 30
  o : Blk w1 (w.heap.size + 1) (vrow .i8 os) 32
theorem Two.start (w : World) : Two w ((w.alloc (.cells zfld.vals.toArray 30)).alloc (.cells (vrow .i8 zown).toArray 32)) zfld zown := by
  have h := boxed2 w zfld.vals (vrow .i8 zown) 30 32
  exact ⟨h.below, h.blk (w.heap.size, zfld.vals, 30) (by simp), h.blk (w.heap.size + 1, vrow .i8 zown, 32) (by simp)⟩
theorem Two.step {w w1 w2 : World} {F : Fld} {os : List Int} (h : Two w w1 F os) (hb : Below w1.heap.size w1 w2) : Two w w2 F os :=
  ⟨h.b.trans (hb.mono h.b.size), h.f.below hb h.f.lt, h.o.below hb h.o.lt⟩
theorem Two.row {w w1 : World} {F : Fld} {os : List Int} (h : Two w w1 F os) (F2 : Fld) : Two w (w1.setRow w.heap.size F2.vals.toArray) F2 os :=
  ⟨below_setRow h.b (Nat.le_refl _) _, h.f.row _, h.o.rowOther (by omega) _⟩
theorem Two.row2 {w w1 : World} {F : Fld} {os : List Int} (h : Two w w1 F os) (os2 : List Int) : Two w (w1.setRow (w.heap.size + 1) (vrow .i8 os2).toArray) F os2 :=
  ⟨below_setRow h.b (by omega) _, h.f.rowOther (by omega) _, h.o.row _⟩
set_option maxRecDepth 100000 in
set_option maxHeartbeats 8000000 in
theorem iReadOwners_none (t : ByteArray) (hs : t.size ≤ 1048576) (w : World) (hG : Glob w) (hR : iRead (cut2 t) = none) :
    Calls Tryd.prog 10 #[.string t] w fun e w' => e = .returned (readOut2 none) ∧ Below w.heap.size w w' := by
  have hz := zero_field
  have hz2 := zero_own
  have HC := Lib.hid (fun w1 (h : Below w.heap.size w w1) => iCut_any t hs w1 (hG.below h))
  have HS := Lib.hid (fun w1 (h : Below w.heap.size w w1) => iSplit_any (cut1 t) 10 (by have := (cut_size t hs).1; omega) w1 (hG.below h))
  have HRF := Lib.hid (fun w1 (h : Below w.heap.size w w1) => iReadField_any (cut2 t) (cut_size t hs).2 w1 (hG.below h))
  rw [hR] at HRF
  simp only [readOut] at HRF
  clear hR hG
  obtain ⟨L, hL⟩ : ∃ L, L = cutS 10 (cut1 t) := ⟨_, rfl⟩
  rw [← hL] at HS
  clear hL
  generalize cut1 t = t1 at *
  generalize cut2 t = t2 at *
  go_enter Tryd.func10, Tryd.ntmps10
  go_upto_region 1 with (fail)
  obtain ⟨W, hW⟩ : ∃ W, W = (w.alloc (.cells zfld.vals.toArray 30)).alloc (.cells (vrow .i8 zown).toArray 32) := ⟨_, rfl⟩
  have HT := Lib.hid (Two.start w)
  rw [← hW] at HT ⊢
  clear hW
  go_wp2_with (first
    | (go_at_call 26; refine (HC.out _ HT.out.b).mono ?_; rintro e w1 ⟨⟨b, rfl⟩, hb⟩; have HT1 := Lib.hid (HT.out.step hb); clear hb)
    | (go_at_call 27; refine (HRF.out _ HT1.out.b).mono ?_; rintro e w2 ⟨rfl, hb⟩; have HT2 := Lib.hid (HT1.out.step hb); have hsto := run_storeCells_blk (P := Tryd.prog) (Blk.new' w2 zfld.vals 30) (vs := zfld.vals) rfl zfld.one; clear hb)
    | (go_at_call 28; refine (HS.out _ (below_setRow (HT2.out.b.alloc HT2.out.b.size _) HT2.out.b.size _)).mono ?_; rintro e w3 ⟨ad, c, rfl, hc, hst, hge, hb⟩; have HT3 := Lib.hid (HT2.out.step ((below_setRow ((Below.refl _ _).alloc (Nat.le_refl _) _) (Nat.le_refl _) _).trans (hb.mono (by simp)))); have hst1 := run_storeCells_blk (P := Tryd.prog) HT3.out.f (vs := zfld.vals) rfl zfld.one; have hst2 := run_storeCells_blk (P := Tryd.prog) (HT3.out.row zfld).o (vs := vrow .i8 zown) rfl (vrow_one _ _); clear hst hb))
  exact post_blk3 (p := 2) (q := 3) (r := 4) (T := 30) (T2 := 32) rfl rfl rfl rfl rfl ((HT3.out.row zfld).row2 zown).f Tryd.underlying30 rfl (by rw [zfld_ok.len]; kernel_rfl) ((HT3.out.row zfld).row2 zown).o Tryd.underlying32 rfl (by rw [vrow_len, zown_len]; kernel_rfl) ⟨rfl, ((HT3.out.row zfld).row2 zown).b⟩
set_option maxRecDepth 100000 in
set_option maxHeartbeats 8000000 in
theorem iReadOwners_some (t : ByteArray) (hs : t.size ≤ 1048576) (w : World) (hG : Glob w) (F : Fld) (hR : iRead (cut2 t) = some F) :
    Calls Tryd.prog 10 #[.string t] w fun e w' => e = .returned (readOut2 (ownersOf (cutS 10 (cut1 t)) F)) ∧ Below w.heap.size w w' := by
  have hz := zero_field
  have hz2 := zero_own
  have HG := Lib.hid hG
  have HC := Lib.hid (fun w1 (h : Below w.heap.size w w1) => iCut_any t hs w1 (hG.below h))
  have HS := Lib.hid (fun w1 (h : Below w.heap.size w w1) => iSplit_any (cut1 t) 10 (by have := (cut_size t hs).1; omega) w1 (hG.below h))
  have HRF := Lib.hid (fun w1 (h : Below w.heap.size w w1) => iReadField_any (cut2 t) (cut_size t hs).2 w1 (hG.below h))
  have HO := Lib.hid (iRead_ok hR).1
  have HV := Lib.hid (iRead_ok hR).2
  rw [hR] at HRF
  simp only [readOut] at HRF
  have h3 : ∀ p ∈ cutS 10 (cut1 t), p.size ≤ 1048576 := fun p hp => Nat.le_trans (cutS_mem 10 _ hp) (cut_size t hs).1
  have h2 : (cutS 10 (cut1 t)).length ≤ 1048577 := Nat.le_trans (cutS_len 10 _) (by have := (cut_size t hs).1; omega)
  clear hR hG
  obtain ⟨L, hL⟩ : ∃ L, L = cutS 10 (cut1 t) := ⟨_, rfl⟩
  rw [← hL] at HS h3 h2
  rw [← hL]
  clear hL
  generalize cut1 t = t1 at *
  generalize cut2 t = t2 at *
  obtain ⟨Z, hZ⟩ : ∃ Z, Z = ownersOf L F := ⟨_, rfl⟩
  rw [← hZ]
  unfold ownersOf at hZ
  have hFl := HO.out.len
  have hhw : wrap64 F.high = F.high := by have := HO.out.h0; have := HO.out.h1; unfold wrap64; omega
  by_cases c1 : (L.length : Int) ≠ F.high
  · rw [if_pos c1] at hZ
    subst hZ
    have f1 : ((L.length : Int) != F.high) = true := by simpa using c1
    go_enter Tryd.func10, Tryd.ntmps10
    go_upto_region 1 with (fail)
    obtain ⟨W, hW⟩ : ∃ W, W = (w.alloc (.cells zfld.vals.toArray 30)).alloc (.cells (vrow .i8 zown).toArray 32) := ⟨_, rfl⟩
    have HT := Lib.hid (Two.start w)
    rw [← hW] at HT ⊢
    clear hW
    go_wp2_with (first
      | (go_at_call 26; refine (HC.out _ HT.out.b).mono ?_; rintro e w1 ⟨⟨b, rfl⟩, hb⟩; have HT1 := Lib.hid (HT.out.step hb); clear hb)
      | (go_at_call 27; refine (HRF.out _ HT1.out.b).mono ?_; rintro e w2 ⟨rfl, hb⟩; have HT2 := Lib.hid (HT1.out.step hb); have hsto := run_storeCells_blk (P := Tryd.prog) (Blk.new' w2 zfld.vals 30) (vs := F.vals) (by rw [HO.out.len, zfld_ok.len]) F.one; clear hb)
      | (go_at_call 28; refine (HS.out _ (below_setRow (HT2.out.b.alloc HT2.out.b.size _) HT2.out.b.size _)).mono ?_; rintro e w3 ⟨ad, c, rfl, hc, hst, hge, hb⟩; have HF3 : Hid (IsF w3 w2.heap.size F) := Lib.hid (row_after hb); have ch := HF3.out.c1; have HT3 := Lib.hid (HT2.out.step ((below_setRow ((Below.refl _ _).alloc (Nat.le_refl _) _) (Nat.le_refl _) _).trans (hb.mono (by simp)))); have hst1 := run_storeCells_blk (P := Tryd.prog) HT3.out.f (vs := zfld.vals) rfl zfld.one; have hst2 := run_storeCells_blk (P := Tryd.prog) (HT3.out.row zfld).o (vs := vrow .i8 zown) rfl (vrow_one _ _); have HST := Lib.hid hst; clear hst hb))
    exact post_blk3 (p := 2) (q := 3) (r := 4) (T := 30) (T2 := 32) rfl rfl rfl rfl rfl ((HT3.out.row zfld).row2 zown).f Tryd.underlying30 rfl (by rw [zfld_ok.len]; kernel_rfl) ((HT3.out.row zfld).row2 zown).o Tryd.underlying32 rfl (by rw [vrow_len, zown_len]; kernel_rfl) ⟨rfl, ((HT3.out.row zfld).row2 zown).b⟩
  · rw [if_neg c1] at hZ
    have f0 : (L.length : Int) = F.high := Decidable.of_not_not c1
    have f1 : ((L.length : Int) != F.high) = false := by rw [f0]; simp
    have f2 : ((L.length : Int) = F.high) = True := eq_true f0
    have hl10 : L.length ≤ 10 := by have := inB_iff.1 HV.out.h; omega
    clear c1 f0
    go_enter Tryd.func10, Tryd.ntmps10
    go_upto_region 1 with (fail)
    obtain ⟨W, hW⟩ : ∃ W, W = (w.alloc (.cells zfld.vals.toArray 30)).alloc (.cells (vrow .i8 zown).toArray 32) := ⟨_, rfl⟩
    have HT := Lib.hid (Two.start w)
    rw [← hW] at HT ⊢
    clear hW
    go_wp2_with (first
      | (go_at_call 26; refine (HC.out _ HT.out.b).mono ?_; rintro e w1 ⟨⟨b, rfl⟩, hb⟩; have HT1 := Lib.hid (HT.out.step hb); clear hb)
      | (go_at_call 27; refine (HRF.out _ HT1.out.b).mono ?_; rintro e w2 ⟨rfl, hb⟩; have HT2 := Lib.hid (HT1.out.step hb); have hsto := run_storeCells_blk (P := Tryd.prog) (Blk.new' w2 zfld.vals 30) (vs := F.vals) (by rw [HO.out.len, zfld_ok.len]) F.one; clear hb)
      | (go_at_call 28; refine (HS.out _ (below_setRow (HT2.out.b.alloc HT2.out.b.size _) HT2.out.b.size _)).mono ?_; rintro e w3 ⟨ad, c, rfl, hc, hst, hge, hb⟩; have HF3 : Hid (IsF w3 w2.heap.size F) := Lib.hid (row_after hb); have ch := HF3.out.c1; have HT3 := Lib.hid (HT2.out.step ((below_setRow ((Below.refl _ _).alloc (Nat.le_refl _) _) (Nat.le_refl _) _).trans (hb.mono (by simp)))); have hst3 := run_storeCells_blk (P := Tryd.prog) (Blk.new' w3 (vrow .i8 zown) 32) (vs := vrow .i8 zown) rfl (vrow_one _ _); have HST := Lib.hid hst; clear hst hb))
    have hb1 : w3.heap.size ≤ w3.heap.size := Nat.le_refl _
    have hlt8 : w2.heap.size < w3.heap.size := HF3.out.lt
    have hltA : w.heap.size + 1 < w3.heap.size := HT3.out.o.lt
    have cw := HF3.out.c0
    clear ch hge hsto hst3
    go_loopw [46] (fun v wr => ∃ i : Nat, i ≤ 100 ∧ v = .int .i64 i ∧ Hid (Blk wr w3.heap.size (vrow .i8 (fillO i)) 32) ∧ Hid (Below w3.heap.size w3 wr)) (fun v _ => 100 - (intOf v).toNat)
    case atStart => exact ⟨0, by omega, rfl, Lib.hid ((Blk.new' w3 (vrow .i8 zown) 32).row _), Lib.hid (below_setRow ((Below.refl _ _).alloc (Nat.le_refl _) _) (Nat.le_refl _) _)⟩
    case round =>
      obtain ⟨i, hi, rfl, HK, HB⟩ := hrel
      by_cases hlt : i < 100
      · have fi := HK.out.free i
        have ci := HK.out.cell (vrow_get (k := .i8) (zs := fillO i) (i := i) (by rw [fillO_len hi]; exact hlt))
        go_wp2
        go_roundw
        case rel => exact ⟨i + 1, hlt, by go_num, Lib.hid (by rw [← fillO_set hlt]; exact HK.out.set _ _), Lib.hid (below_setCell HB.out (Nat.le_refl _) _ _)⟩
        case measure => simp only [intOf]; omega
      · have HK0 : Hid (Blk wr w3.heap.size (vrow .i8 bareO) 32) := Lib.hid (by rw [← fillO_end, ← (show i = 100 by omega)]; exact HK.out)
        have HB0 := HB
        clear HK HB
        have HG2 := Lib.hid (HG.out.below HT3.out.b)
        have hR : linesO F.wide bareO 0 (L.drop 0) = linesO F.wide bareO 0 L := rfl
        generalize linesO F.wide bareO 0 L = R at *
        go_wp2
        go_loopw [54] (fun v wr => ∃ (y : Nat) (os : List Int), y ≤ L.length ∧ v = .int .i64 y ∧ OsOk os ∧ linesO F.wide os y (L.drop y) = R ∧ Hid (Blk wr w3.heap.size (vrow .i8 os) 32) ∧ Hid (Below w3.heap.size w3 wr)) (fun v _ => L.length - (intOf v).toNat)
        case atStart => exact ⟨0, bareO, by omega, rfl, bareO_ok, hR, HK0, HB0⟩
        case round =>
          clear hR HK0 HB0
          obtain ⟨y, os, hy, rfl, ho, hR, HK, HBr⟩ := hrel
          by_cases hlt : y < L.length
          · have hly := (HST.out.below HBr.out).c y hlt
            rw [List.drop_eq_getElem_cons hlt] at hR
            simp only [linesO] at hR
            have hls := h3 _ (List.getElem_mem hlt)
            have HQ2 := Lib.hid (fun wa (h : Below w3.heap.size w3 wa) => iSplit_any L[y] 32 (by omega) wa (HG2.out.below h))
            have hws : ∀ p ∈ cutS 32 L[y], p.size ≤ 281474976710656 := fun p hp => by have := cutS_mem 32 L[y] hp; omega
            have hw2 : (cutS 32 L[y]).length ≤ 1048577 := Nat.le_trans (cutS_len 32 L[y]) (by omega)
            generalize hrest : L.drop (y + 1) = rest at hR
            clear hls
            generalize cutS 32 L[y] = ws at *
            generalize L[y] = ln at *
            obtain ⟨m, hm⟩ : ∃ m, ws.length = m := ⟨_, rfl⟩
            rw [hm] at hR hw2
            have cwr := pw_cell_below HBr.out cw
            have hww : wrap64 F.wide = F.wide := by have := HO.out.w0; have := HO.out.w1; unfold wrap64; omega
            have HTr := Lib.hid (HT3.out.step HBr.out)
            by_cases d1 : (m : Int) ≠ F.wide
            · rw [if_pos d1] at hR
              subst hR
              obtain rfl : Z = none := hZ
              have g1 : ((m : Int) != F.wide) = true := by simpa using d1
              go_wp2_with (first
                | (go_at_call 28; refine (HQ2.out _ HBr.out).mono ?_; rintro e w5 ⟨ad2, c2, rfl, hc2, hst2', hge2, hb2⟩; rw [hm]; have HT5 := Lib.hid (HTr.out.step hb2); have hst1 := run_storeCells_blk (P := Tryd.prog) HT5.out.f (vs := zfld.vals) rfl zfld.one; have hst2 := run_storeCells_blk (P := Tryd.prog) (HT5.out.row zfld).o (vs := vrow .i8 zown) rfl (vrow_one _ _); have cw5 := pw_cell_below hb2 cwr; clear hst2' hb2))
              exact post_blk3 (p := 2) (q := 3) (r := 4) (T := 30) (T2 := 32) rfl rfl rfl rfl rfl ((HT5.out.row zfld).row2 zown).f Tryd.underlying30 rfl (by rw [zfld_ok.len]; kernel_rfl) ((HT5.out.row zfld).row2 zown).o Tryd.underlying32 rfl (by rw [vrow_len, zown_len]; kernel_rfl) ⟨rfl, ((HT5.out.row zfld).row2 zown).b⟩
            · rw [if_neg d1] at hR
              have g0 : (m : Int) = F.wide := Decidable.of_not_not d1
              have g1 : ((m : Int) != F.wide) = false := by rw [g0]; simp
              have g2 : ((m : Int) = F.wide) = True := eq_true g0
              have hm10 : m ≤ 10 := by have := inB_iff.1 HV.out.w; omega
              clear g0 d1
              go_wp2_with (first
                | (go_at_call 28; refine (HQ2.out _ HBr.out).mono ?_; rintro e w5 ⟨ad2, c2, rfl, hc2, hst2', hge2, hb2⟩; rw [hm]; have HK5 := Lib.hid (HK.out.below hb2 HK.out.lt); have HB5 := Lib.hid (HBr.out.trans (hb2.mono HBr.out.size)); have HW5 := Lib.hid hst2'; have cw5 := pw_cell_below hb2 cwr; clear hst2' hb2))
              have hne : ad2.block ≠ w3.heap.size := by have := HK.out.lt; omega
              clear cw5 hge2 cwr
              go_loopw [71] (fun v wr2 => ∃ (x : Nat) (os2 : List Int), x ≤ m ∧ v = .int .i64 x ∧ OsOk os2 ∧ ((rowO y os2 x (ws.drop x)).bind fun os => linesO F.wide os (y + 1) rest) = R ∧ Hid (Blk wr2 w3.heap.size (vrow .i8 os2) 32) ∧ Hid (Strs wr2 ad2 ws) ∧ Hid (Below w3.heap.size w3 wr2)) (fun v _ => m - (intOf v).toNat)
              case atStart => exact ⟨0, os, by omega, rfl, ho, hR, HK5, HW5, HB5⟩
              case round =>
                clear hR HK HBr HTr HK5 HW5 HB5 ho hww
                obtain ⟨x, os2, hx, rfl, ho2, hR, HK2, HW2, HB2⟩ := hrel
                by_cases hxl : x < m
                · have hwx := HW2.out.c x (by omega)
                  rw [List.drop_eq_getElem_cons (by omega)] at hR
                  simp only [rowO] at hR
                  have hsz := hws ws[x] (List.getElem_mem _)
                  have hk100 : x + 10 * y < 100 := by omega
                  generalize ws[x] = s at *
                  cases hp : (parseF s 0 9).2 with
                  | true =>
                    obtain ⟨v0, v1⟩ := parse_bounds hp
                    rw [if_pos hp] at hR
                    go_wp2_with (first | (go_at_call 29; refine (parse_any s 0 9 (by decide) (by decide) hsz _ (HG2.out.below HB2.out)).mono ?_; rintro e w6 ⟨rfl, hb⟩; have HK6 := Lib.hid (HK2.out.below hb HK2.out.lt); have HW6 := Lib.hid (HW2.out.below hb); have HB6 := Lib.hid (HB2.out.trans (hb.mono HB2.out.size)); have fz := HK6.out.free (x + 10 * y); have cx := HK6.out.cell (vrow_get (k := .i8) (zs := os2) (i := x + 10 * y) (by rw [ho2.len]; exact hk100));  clear hb))
                    go_roundw
                    case rel => exact ⟨x + 1, os2.set (x + 10 * y) (parseF s 0 9).1, hxl, by go_num, osok_set ho2 v0 v1, hR, Lib.hid (by rw [← vrow_set8]; exact HK6.out.set _ _), Lib.hid (HW6.out.set hne _ _), Lib.hid (below_setCell HB6.out (Nat.le_refl _) _ _)⟩
                    case measure => simp only [intOf]; omega
                  | false =>
                    rw [if_neg (by rw [hp]; decide)] at hR
                    simp only [Option.bind_none] at hR
                    subst hR
                    obtain rfl : Z = none := hZ
                    go_wp2_with (first | (go_at_call 29; refine (parse_any s 0 9 (by decide) (by decide) hsz _ (HG2.out.below HB2.out)).mono ?_; rintro e w6 ⟨rfl, hb⟩; have HK6 := Lib.hid (HK2.out.below hb HK2.out.lt); have HW6 := Lib.hid (HW2.out.below hb); have HB6 := Lib.hid (HB2.out.trans (hb.mono HB2.out.size)); have fz := HK6.out.free (x + 10 * y); have cx := HK6.out.cell (vrow_get (k := .i8) (zs := os2) (i := x + 10 * y) (by rw [ho2.len]; exact hk100)); have HT6 := Lib.hid (HT3.out.step HB6.out); have hst1 := run_storeCells_blk (P := Tryd.prog) HT6.out.f (vs := zfld.vals) rfl zfld.one; have hst2 := run_storeCells_blk (P := Tryd.prog) (HT6.out.row zfld).o (vs := vrow .i8 zown) rfl (vrow_one _ _); clear hb))
                    exact post_blk3 (p := 2) (q := 3) (r := 4) (T := 30) (T2 := 32) rfl rfl rfl rfl rfl ((HT6.out.row zfld).row2 zown).f Tryd.underlying30 rfl (by rw [zfld_ok.len]; kernel_rfl) ((HT6.out.row zfld).row2 zown).o Tryd.underlying32 rfl (by rw [vrow_len, zown_len]; kernel_rfl) ⟨rfl, ((HT6.out.row zfld).row2 zown).b⟩
                · obtain rfl : x = m := by omega
                  rw [List.drop_eq_nil_iff.2 (by omega)] at hR
                  simp only [rowO, Option.bind_some] at hR
                  go_wp2
                  go_roundw
                  case rel => exact ⟨y + 1, os2, hlt, by go_num, ho2, by rw [hrest]; exact hR, HK2, HB2⟩
                  case measure => simp only [intOf]; omega
          · obtain rfl : y = L.length := by omega
            rw [List.drop_length] at hR
            simp only [linesO] at hR
            subst hR
            obtain rfl : Z = some (F, os) := hZ
            have HTr := Lib.hid (HT3.out.step HBr.out)
            have HFr := Lib.hid (HF3.out.below' HBr.out)
            have hfl : (vrow .i8 os).length = 100 := by rw [vrow_len, ho.len]
            go_upto_region 27 with (fail)
            refine wp_region_K 2 5 #[false, false, false, false, false] (by kernel_rfl) (by kernel_rfl) (fun _ _ _ _ hd h => ⟨hd.symm.trans h.1, h.2⟩) (fun hPB => ?_)
            refine wpK_take (i := 0) (v := .agg F.vals.toArray) #[true, false, false, false, false] rfl (by kernel_rfl) hPB (y_load rfl 30 (.tmp 8) rfl (w2.heap.size) 0 (by kernel_rfl) F.vals _ HFr.out (by rw [List.drop_zero, List.take_length]) Tryd.underlying30 rfl (by rw [hFl]; kernel_rfl)) ?_
            simp only [List.getElem_toArray, List.getElem_cons_zero, List.getElem_cons_succ, Act.put, List.setIfInBounds_toArray, List.set_cons_zero, List.set_cons_succ]
            refine wpK_two (i := 1) (j := 2) #[true, true, false, false, false] #[true, false, true, false, false] (by kernel_rfl) (fun wa hu => ?_) (fun wa hu => ?_)
            · have HTa : Hid (Two w wa zfld zown) := Lib.hid (HTr.out.step ((below_drew1 (Below.refl _ _)).trans hu))
              have HKa := Lib.hid (HK.out.below ((below_drew1 (Below.refl _ _)).trans hu) HK.out.lt)
              clear hu
              refine k_value rfl rfl (.agg (vrow .i8 os).toArray) (k_load 32 (.tmp 11) rfl (w3.heap.size) (vrow .i8 os) (by kernel_rfl) HKa.out Tryd.underlying32 rfl (by rw [hfl]; kernel_rfl)) ⟨fun _ => WUp.refl _, ?_⟩
              simp only [List.getElem_toArray, List.getElem_cons_zero, List.getElem_cons_succ, Act.put, List.setIfInBounds_toArray, List.set_cons_zero, List.set_cons_succ]
              refine wpK_only (i := 2) #[true, true, true, false, false] (by kernel_rfl) (fun wb hu => ?_)
              have HTb : Hid (Two w wb zfld zown) := Lib.hid (HTa.out.step hu)
              clear hu
              refine k_store_all rfl rfl 30 (.tmp 2) (.tmp 94) rfl w.heap.size F.vals (by kernel_rfl) (by kernel_rfl) HTb.out.f (by rw [hFl, zfld_ok.len]) (by rw [hFl]; kernel_rfl) F.one ⟨fun h => absurd h (by decide), ?_⟩
              simp only [List.getElem_toArray, List.getElem_cons_zero, List.getElem_cons_succ, Act.put, List.setIfInBounds_toArray, List.set_cons_zero, List.set_cons_succ]
              refine wpK_only (i := 3) #[true, true, true, true, false] (by kernel_rfl) (fun wc hu => ?_)
              have HTc : Hid (Two w wc F zown) := Lib.hid ((HTb.out.row F).step hu)
              clear hu
              refine k_store_all rfl rfl 32 (.tmp 3) (.tmp 95) rfl (w.heap.size + 1) (vrow .i8 os) (by kernel_rfl) (by kernel_rfl) HTc.out.o (by rw [hfl, vrow_len, zown_len]) (by rw [hfl]; kernel_rfl) (vrow_one _ _) ⟨fun h => absurd h (by decide), ?_⟩
              simp only [List.getElem_toArray, List.getElem_cons_zero, List.getElem_cons_succ, Act.put, List.setIfInBounds_toArray, List.set_cons_zero, List.set_cons_succ]
              refine wpK_only (i := 4) #[true, true, true, true, true] (by kernel_rfl) (fun wd hu => ?_)
              have HTd : Hid (Two w wd F os) := Lib.hid ((HTc.out.row2 os).step hu)
              clear hu
              refine k_assign rfl rfl (.const (.int .i64 0)) rfl (.int .i64 0) (by kernel_rfl) ⟨fun h => absurd h (by decide), ?_⟩
              simp only [List.getElem_toArray, List.getElem_cons_zero, List.getElem_cons_succ, Act.put, List.setIfInBounds_toArray, List.set_cons_zero, List.set_cons_succ]
              refine wpK_done (by kernel_rfl) (fun we hu => ?_)
              have HTe : Hid (Two w we F os) := Lib.hid (HTd.out.step hu)
              clear hu
              go_wp2
              exact post_blk3 (p := 2) (q := 3) (r := 4) (T := 30) (T2 := 32) rfl rfl rfl rfl rfl HTe.out.f Tryd.underlying30 rfl (by rw [hFl]; kernel_rfl) HTe.out.o Tryd.underlying32 rfl (by rw [hfl]; kernel_rfl) ⟨rfl, HTe.out.b⟩
            · have HTa : Hid (Two w wa zfld zown) := Lib.hid (HTr.out.step ((below_drew1 (Below.refl _ _)).trans hu))
              have HKa := Lib.hid (HK.out.below ((below_drew1 (Below.refl _ _)).trans hu) HK.out.lt)
              clear hu
              refine k_store_all rfl rfl 30 (.tmp 2) (.tmp 94) rfl w.heap.size F.vals (by kernel_rfl) (by kernel_rfl) HTa.out.f (by rw [hFl, zfld_ok.len]) (by rw [hFl]; kernel_rfl) F.one ⟨fun h => absurd h (by decide), ?_⟩
              simp only [List.getElem_toArray, List.getElem_cons_zero, List.getElem_cons_succ, Act.put, List.setIfInBounds_toArray, List.set_cons_zero, List.set_cons_succ]
              refine wpK_only (i := 1) #[true, true, true, false, false] (by kernel_rfl) (fun wb hu => ?_)
              have HTb : Hid (Two w wb F zown) := Lib.hid ((HTa.out.row F).step hu)
              have HKb := Lib.hid ((HKa.out.rowOther (Nat.ne_of_gt (Nat.lt_of_lt_of_le (Nat.lt_succ_self _) (Nat.le_of_lt hltA))) F.vals.toArray).below hu (HKa.out.rowOther (Nat.ne_of_gt (Nat.lt_of_lt_of_le (Nat.lt_succ_self _) (Nat.le_of_lt hltA))) F.vals.toArray).lt)
              clear hu
              refine k_value rfl rfl (.agg (vrow .i8 os).toArray) (k_load 32 (.tmp 11) rfl (w3.heap.size) (vrow .i8 os) (by kernel_rfl) HKb.out Tryd.underlying32 rfl (by rw [hfl]; kernel_rfl)) ⟨fun _ => WUp.refl _, ?_⟩
              simp only [List.getElem_toArray, List.getElem_cons_zero, List.getElem_cons_succ, Act.put, List.setIfInBounds_toArray, List.set_cons_zero, List.set_cons_succ]
              refine wpK_only (i := 3) #[true, true, true, true, false] (by kernel_rfl) (fun wc hu => ?_)
              have HTc : Hid (Two w wc F zown) := Lib.hid (HTb.out.step hu)
              clear hu
              refine k_store_all rfl rfl 32 (.tmp 3) (.tmp 95) rfl (w.heap.size + 1) (vrow .i8 os) (by kernel_rfl) (by kernel_rfl) HTc.out.o (by rw [hfl, vrow_len, zown_len]) (by rw [hfl]; kernel_rfl) (vrow_one _ _) ⟨fun h => absurd h (by decide), ?_⟩
              simp only [List.getElem_toArray, List.getElem_cons_zero, List.getElem_cons_succ, Act.put, List.setIfInBounds_toArray, List.set_cons_zero, List.set_cons_succ]
              refine wpK_only (i := 4) #[true, true, true, true, true] (by kernel_rfl) (fun wd hu => ?_)
              have HTd : Hid (Two w wd F os) := Lib.hid ((HTc.out.row2 os).step hu)
              clear hu
              refine k_assign rfl rfl (.const (.int .i64 0)) rfl (.int .i64 0) (by kernel_rfl) ⟨fun h => absurd h (by decide), ?_⟩
              simp only [List.getElem_toArray, List.getElem_cons_zero, List.getElem_cons_succ, Act.put, List.setIfInBounds_toArray, List.set_cons_zero, List.set_cons_succ]
              refine wpK_done (by kernel_rfl) (fun we hu => ?_)
              have HTe : Hid (Two w we F os) := Lib.hid (HTd.out.step hu)
              clear hu
              go_wp2
              exact post_blk3 (p := 2) (q := 3) (r := 4) (T := 30) (T2 := 32) rfl rfl rfl rfl rfl HTe.out.f Tryd.underlying30 rfl (by rw [hFl]; kernel_rfl) HTe.out.o Tryd.underlying32 rfl (by rw [hfl]; kernel_rfl) ⟨rfl, HTe.out.b⟩
/-- The program's ReadOwners. -/
theorem iReadOwners_any (t : ByteArray) (hs : t.size ≤ 1048576) (w : World) (hG : Glob w) :
    Calls Tryd.prog 10 #[.string t] w fun e w' => e = .returned (readOut2 (iOwn t)) ∧ Below w.heap.size w w' := by
  unfold iOwn
  cases h : iRead (cut2 t) with
  | none => exact iReadOwners_none t hs w hG h
  | some F => exact iReadOwners_some t hs w hG F h
end Go.Proofs.YtfeniekapmbjjaaDoor
