/- Scarecrows of a field: whether a list is as told, by the reference. No condition but that the numbers are within their kinds. -/
import Derived.Test.YtndhmcjcnmiobaaS2
namespace Go.Proofs.Ytndhmcjcnmiobaa
open Go.RowKit Go.Proofs.YtndhmcjcnmiobaaW.PrintWords Go.Proofs.YtndhmcjcnmiobaaW.PrintLast Go.Proofs.YtndhmcjcnmiobaaW.PrintMore Go.Proofs.Ytndhmcjcnmiobaa.PAll
set_option linter.unusedSimpArgs false
set_option linter.unusedVariables false

section
variable {P : Program} {ops : Array Oper} {C : World → Prop} {Qa : Act → Prop} {rest : List Oper} {oi : Oper} {a : Act}
theorem run_load_bool {cs : List Value} {T : TypeId} {b o : Nat} {z : Bool} {w : World} (ty : TypeId) (hu : P.underlying ty = some .bool) (hB : Blk w b cs T) (hv : cs[o]? = some (.bool z)) :
    (Instr.loadAt ty (.pointer (some ⟨b, o, none⟩))).run P w = .ok (.bool z) w := by
  have hc := hB.cell hv
  simp [Instr.loadAt, hc, go_sem, isAgg, run_underlying hu]
theorem q_bcell {T : TypeId} {cs : List Value} {z : Bool} (N : Option Tmp) (hd : oi.dst = N) (hw : Region.wanted oi (yielded ops a.tmps) = true) (ty : TypeId) (x : Operand) (ho : oi.op = .load ty x) (b o : Nat) (hx : a.eval x = .pointer (some ⟨b, o, none⟩))
    (hB : ∀ w, C w → Blk w b cs T) (hv : cs[o]? = some (.bool z)) (hu : P.underlying ty = some .bool) (h : wpQuiet P ops C Qa rest (a.put N (.bool z))) : wpQuiet P ops C Qa (oi :: rest) a := by
  refine q_value N hd hw _ (fun w hC => ?_) h
  unfold execOp
  simp only [ho, hx, Sem.run_bind, run_load_bool ty hu (hB w hC) hv, Sem.run_pure, Result.andThen_ok]
end
/-- A row of a hundred yes and no. -/
def brow (f : Nat → Bool) : List Value := (List.range 100).map fun c => Value.bool (f c)
theorem brow_len (f : Nat → Bool) : (brow f).length = 100 := by simp [brow]
theorem brow_get (f : Nat → Bool) {k : Nat} (h : k < 100) : (brow f)[k]? = some (.bool (f k)) := by simp [brow, h]
theorem brow_set (f : Nat → Bool) {k : Nat} (h : k < 100) : (brow f).set k (.bool true) = brow (fun c => f c || decide (k = c)) := by
  refine List.ext_getElem (by simp [brow]) fun i h1 h2 => ?_
  rw [List.getElem_set]
  simp only [brow, List.getElem_map, List.getElem_range]
  by_cases e : k = i
  · simp [e]
  · simp [e]
theorem brow_one (f : Nat → Bool) : ∀ v ∈ brow f, v.oneCell' = true := by
  intro v hv
  obtain ⟨i, _, rfl⟩ := List.mem_map.1 hv
  rfl
theorem zeroSeen (w : World) : (zeroValue 85).run Try.prog w = .ok (.agg (brow (fun _ => false)).toArray) w := (zero_of_info (by kernel_rfl : (Try.prog.info? 85).map (fun i => (i.zero, i.size)) = some (some (.agg (brow (fun _ => false)).toArray), 100))).1 w
theorem seen_next (xs : List S61) (i : Nat) (k : Int) : seenTo xs (i + 1) k = (seenTo xs i k || ((rd_T61 xs (i : Int)).f0 == k)) := by
  unfold seenTo anyTo
  rw [List.range_succ, List.any_append]
  simp
theorem seen_none (xs : List S61) (k : Int) : seenTo xs 0 k = false := rfl

set_option maxHeartbeats 8000000 in
theorem l03Ok_any (F : Fld) (hF : F.Ok) (xs : List S61) (hx : ScsOk xs) (g : Nat) (A : Option Addr) (c : Nat) (w : World) (hf : IsF w g F) (hA : Kd.C k61 w A xs.length xs) :
    Calls Try.prog 28 #[.pointer (some ⟨g, 0, none⟩), .slice A xs.length c] w fun e w' => e = .returned (.bool (F.valid && scOn F xs)) ∧ Below w.heap.size w w' := by
  have HF := Lib.hid hf
  have HO := Lib.hid hF
  have HX := Lib.hid hx
  have HA := Lib.hid hA
  have hlen := hA.2.1
  have hfl := hf.lt
  have hz := zeroSeen
  clear hf hF hx hA
  cases hv : F.valid
  · have HV := Lib.hid hv
    clear hv
    go_enter Try.func28, Try.ntmps28
    go_wp2_with (go_at_call 35; (with_reducible refine (l01Ok_any F HO.out _ _ HF.out).mono ?_); rintro e w1 ⟨rfl, rfl⟩; rw [HV.out])
    go_ret
    exact ⟨rfl, Below.refl _ _⟩
  have HV := Lib.hid hv
  clear hv
  rw [Bool.true_and]
  by_cases h20 : xs.length ≤ 20
  case neg =>
    have HN : Hid (scOn F xs = false) := Lib.hid (by unfold scOn; rw [decide_eq_false h20]; rfl)
    go_enter Try.func28, Try.ntmps28
    go_wp2_with (go_at_call 35; (with_reducible refine (l01Ok_any F HO.out _ _ HF.out).mono ?_); rintro e w1 ⟨rfl, rfl⟩; rw [HV.out])
    go_ret
    exact ⟨ret_bool HN.out.symm, Below.refl _ _⟩
  have HE : Hid (scOn F xs = allB xs.length (scAt F xs)) := Lib.hid (by unfold scOn; rw [decide_eq_true h20]; rfl)
  go_enter Try.func28, Try.ntmps28
  go_upto_region 4 with (first
    | (go_at_call 35; (with_reducible refine (l01Ok_any F HO.out _ _ HF.out).mono ?_); rintro e w1 ⟨rfl, rfl⟩; rw [HV.out])
    | (with_reducible refine wpList_store_all rfl 85 (.tmp 5) (.tmp 16) rfl _ (brow (fun _ => false)) rfl rfl (Blk.new' w (brow (fun _ => false)) 85) rfl (by rw [brow_len]; kernel_rfl) (brow_one _) ?_))
  obtain ⟨sb, hsb⟩ : ∃ sb, sb = w.heap.size := ⟨_, rfl⟩
  obtain ⟨W, hW⟩ : ∃ W, W = (w.alloc (.cells (brow (fun _ => false)).toArray 85)).setRow w.heap.size (brow (fun _ => false)).toArray := ⟨_, rfl⟩
  have HS0 : Hid (Blk W sb (brow (fun c => seenTo xs 0 (c : Int))) 85) := Lib.hid (by rw [hW, hsb]; exact (Blk.new' w (brow (fun _ => false)) 85).row _)
  have HW0 : Hid (Below w.heap.size w W) := Lib.hid (by rw [hW]; exact below_setRow ((Below.refl _ _).alloc (Nat.le_refl _) _) (Nat.le_refl _) _)
  have HF0 : Hid (IsF W g F) := Lib.hid (HF.out.below HW0.out hfl)
  have HSB : Hid (sb ≠ g) := Lib.hid (by omega)
  have HSB2 : Hid (w.heap.size ≤ sb) := Lib.hid (by omega)
  have HSB3 : Hid (sb < W.heap.size) := Lib.hid HS0.out.lt
  rw [← hW, ← hsb]
  clear hW hsb
  go_wp2
  go_loopw [6] (fun v wr => ∃ i : Nat, i ≤ xs.length ∧ v = .int .i64 i ∧ Hid (∀ j, j < i → scAt F xs j = true) ∧ Hid (Kept sb W wr) ∧ Hid (Blk wr sb (brow (fun c => seenTo xs i (c : Int))) 85)) (fun v _ => xs.length - (intOf v).toNat)
  case atStart => exact ⟨0, by omega, rfl, Lib.hid (fun j hj => by omega), Lib.hid (Kept.refl _ _), HS0⟩
  case round =>
    obtain ⟨i, hi, rfl, HR, HK, HS0⟩ := hrel
    have HBr : Hid (Below w.heap.size w wr) := Lib.hid (HK.out.below HW0.out HSB2.out HW0.out.size)
    by_cases hlt : i < xs.length
    case neg =>
      have HN : Hid (scOn F xs = true) := Lib.hid (by rw [HE.out]; exact allB_yes fun j hj => HR.out j (by omega))
      go_wp2
      go_ret
      exact ⟨ret_bool HN.out.symm, HBr.out⟩
    obtain ⟨ad, hA, x0, x1, x2⟩ := at_T61 (Kd.C_below HA.out HBr.out) (i : Int) (by omega) (by omega)
    subst hA
    rw [Int.toNat_natCast] at x0 x1 x2
    have HXi := Lib.hid (HX.out i hlt)
    have HAt : Hid (scAt F xs i = (scPlain (rd_T61 xs (i : Int)) && (F.place (rd_T61 xs (i : Int)).f0 && !(seenTo xs i (rd_T61 xs (i : Int)).f0)))) := Lib.hid rfl
    have HNo : Hid (scAt F xs i = false → scOn F xs = false) := Lib.hid (fun h => by rw [HE.out]; exact allB_no i hlt h)
    have HSn : Hid (∀ k, seenTo xs (i + 1) k = (seenTo xs i k || ((rd_T61 xs (i : Int)).f0 == k))) := Lib.hid (seen_next xs i)
    generalize rd_T61 xs (i : Int) = x at *
    go_upto_region 8 with (fail)
    obtain ⟨W2, hW⟩ : ∃ W2, W2 = wr.alloc (.cells (scVals x).toArray 61) := ⟨_, rfl⟩
    have HC : Hid (Cls W2 [(g, F.vals, 31), (wr.heap.size, scVals x, 61), (sb, brow (fun c => seenTo xs i (c : Int)), 85)] W2) := Lib.hid (by
      refine ⟨Below.refl _ _, fun y hy => ?_⟩
      rw [hW]
      simp only [List.mem_cons, List.not_mem_nil, or_false] at hy
      rcases hy with rfl | rfl | rfl
      · exact (HK.out.blk HF0.out HSB.out.symm).alloc _
      · exact Blk.new' _ _ _
      · exact HS0.out.alloc _)
    have HBW : Hid (Below w.heap.size w W2) := Lib.hid (by rw [hW]; exact HBr.out.alloc HBr.out.size _)
    have HK2 : Hid (Kept sb W W2) := Lib.hid (HK.out.step (by rw [hW]; exact (Below.refl _ _).alloc (Nat.le_refl _) _))
    have hW' : wr.alloc (.cells #[.int .i16 x.f0, .int .i16 x.f1, .int .i8 x.f2] 61) = W2 := hW.symm
    rw [hW']
    clear hW hW' x0 x1 x2
    obtain ⟨a0, a1, _, _, _, _⟩ := id HXi.out
    have e0 : IntKind.i64.wrap x.f0 = x.f0 := by rw [IntKind.wrap_i64]; omega
    refine wp_region_class (Cls W2 [(g, F.vals, 31), (wr.heap.size, scVals x, 61), (sb, brow (fun c => seenTo xs i (c : Int)), 85)]) (by kernel_rfl) (by kernel_rfl) HC.out.drew ?_
    cases hp : scPlain x
    · have HP := Lib.hid hp
      clear hp
      have HN := Lib.hid (HNo.out (by rw [HAt.out, HP.out]; rfl))
      repeat (first | ((with_reducible refine q_gate (some 27) rfl ?_); refine q_load (some 27) rfl (by kernel_rfl) 61 (.tmp 7) rfl (wr.heap.size) (0) (by kernel_rfl) (scVals x) _ (fun w1 h1 => h1.blk (wr.heap.size, scVals x, 61) (by simp)) (rfl) Try.underlying61 rfl (by kernel_rfl) ?_) | ((with_reducible refine q_gate (some 28) rfl ?_); refine q_call (some 28) rfl (by kernel_rfl) Try.func52 (by kernel_rfl) rfl #[.agg (scVals x).toArray] rfl (by simp only [List.map_toArray, List.map_cons, List.map_nil]; kernel_rfl) (.bool (scPlain x)) (fun w1 h1 => h1.calls (shape_any x HXi.out w1)) ?_; rw [HP.out]) | ((with_reducible refine q_auto (fun K hK => ?_)); go_simp; refine hK _ ?_; clear hK K))
      refine wpQuiet_nil ?_
      intro w3 hc3
      have HC3 : Hid (Below w.heap.size w w3) := Lib.hid (HBW.out.trans (hc3.below.mono HBW.out.size))
      clear hc3
      go_wp2
      go_ret
      exact ⟨ret_bool HN.out.symm, HC3.out⟩
    · have HP := Lib.hid hp
      clear hp
      cases hh : F.has x.f0
      · have HH := Lib.hid hh
        clear hh
        have HN := Lib.hid (HNo.out (by rw [HAt.out, HP.out]; unfold Fld.place; rw [HH.out]; rfl))
        repeat (first | ((with_reducible refine q_gate (some 27) rfl ?_); refine q_load (some 27) rfl (by kernel_rfl) 61 (.tmp 7) rfl (wr.heap.size) (0) (by kernel_rfl) (scVals x) _ (fun w1 h1 => h1.blk (wr.heap.size, scVals x, 61) (by simp)) (rfl) Try.underlying61 rfl (by kernel_rfl) ?_) | ((with_reducible refine q_gate (some 28) rfl ?_); refine q_call (some 28) rfl (by kernel_rfl) Try.func52 (by kernel_rfl) rfl #[.agg (scVals x).toArray] rfl (by simp only [List.map_toArray, List.map_cons, List.map_nil]; kernel_rfl) (.bool (scPlain x)) (fun w1 h1 => h1.calls (shape_any x HXi.out w1)) ?_; rw [HP.out]) | ((with_reducible refine q_gate (some 33) rfl ?_); refine q_cell (some 33) rfl (by kernel_rfl) 24 (.tmp 32) rfl (wr.heap.size) (0) (by kernel_rfl) (fun w1 h1 => h1.blk (wr.heap.size, scVals x, 61) (by simp)) (z := x.f0) (rfl) Try.underlying24 ?_) | ((with_reducible refine q_gate (some 35) rfl ?_); refine q_call (some 35) rfl (by kernel_rfl) Try.func53 (by kernel_rfl) rfl #[.pointer (some ⟨g, 0, none⟩), .int .i64 x.f0] rfl (by simp only [List.map_toArray, List.map_cons, List.map_nil]; kernel_rfl) (.bool (F.has x.f0)) (fun w1 h1 => h1.calls' (is_any F g x.f0 w1 (h1.blk (g, F.vals, 31) (by simp)) HO.out)) ?_; rw [HH.out]) | ((with_reducible refine q_auto (fun K hK => ?_)); go_simp; refine hK _ ?_; clear hK K))
        refine wpQuiet_nil ?_
        intro w3 hc3
        have HC3 : Hid (Below w.heap.size w w3) := Lib.hid (HBW.out.trans (hc3.below.mono HBW.out.size))
        clear hc3
        go_wp2
        go_ret
        exact ⟨ret_bool HN.out.symm, HC3.out⟩
      · obtain ⟨k, hk, hk2⟩ := has_nat hh
        have HK0 : Hid ((scVals x)[0]? = some (.int .i16 (k : Int))) := Lib.hid (by rw [← hk]; rfl)
        have HH : Hid (F.has (k : Int) = true) := Lib.hid (by rw [← hk]; exact hh)
        have HQ : Hid (scAt F xs i = (!(F.kind k == 3) && !(seenTo xs i (k : Int)))) := Lib.hid (by rw [HAt.out, HP.out]; unfold Fld.place; rw [hh, hk, Int.toNat_natCast]; rfl)
        have HKX := Lib.hid hk
        have e1 : IntKind.i64.wrap (k : Int) = (k : Int) := by rw [IntKind.wrap_i64]; omega
        have hk3 : (0 : Int) ≤ (k : Int) := by omega
        have hk4 : (k : Int) < 100 := by omega
        clear hh hk e0
        cases h3 : (F.kind k == 3)
        case true =>
          have HN := Lib.hid (HNo.out (by rw [HQ.out, h3]; rfl))
          repeat (first | ((with_reducible refine q_gate (some 27) rfl ?_); refine q_load (some 27) rfl (by kernel_rfl) 61 (.tmp 7) rfl (wr.heap.size) (0) (by kernel_rfl) (scVals x) _ (fun w1 h1 => h1.blk (wr.heap.size, scVals x, 61) (by simp)) (rfl) Try.underlying61 rfl (by kernel_rfl) ?_) | ((with_reducible refine q_gate (some 28) rfl ?_); refine q_call (some 28) rfl (by kernel_rfl) Try.func52 (by kernel_rfl) rfl #[.agg (scVals x).toArray] rfl (by simp only [List.map_toArray, List.map_cons, List.map_nil]; kernel_rfl) (.bool (scPlain x)) (fun w1 h1 => h1.calls (shape_any x HXi.out w1)) ?_; rw [HP.out]) | ((with_reducible refine q_gate (some 33) rfl ?_); refine q_cell (some 33) rfl (by kernel_rfl) 24 (.tmp 32) rfl (wr.heap.size) (0) (by kernel_rfl) (fun w1 h1 => h1.blk (wr.heap.size, scVals x, 61) (by simp)) (z := (k : Int)) (HK0.out) Try.underlying24 ?_) | ((with_reducible refine q_gate (some 35) rfl ?_); refine q_call (some 35) rfl (by kernel_rfl) Try.func53 (by kernel_rfl) rfl #[.pointer (some ⟨g, 0, none⟩), .int .i64 (k : Int)] rfl (by simp only [List.map_toArray, List.map_cons, List.map_nil]; kernel_rfl) (.bool (F.has (k : Int))) (fun w1 h1 => h1.calls' (is_any F g (k : Int) w1 (h1.blk (g, F.vals, 31) (by simp)) HO.out)) ?_; rw [HH.out]) | ((with_reducible refine q_gate (some 41) rfl ?_); refine q_cell (some 41) rfl (by kernel_rfl) 24 (.tmp 40) rfl (wr.heap.size) (0) (by kernel_rfl) (fun w1 h1 => h1.blk (wr.heap.size, scVals x, 61) (by simp)) (z := (k : Int)) (HK0.out) Try.underlying24 ?_) | ((with_reducible refine q_gate (some 45) rfl ?_); refine q_cell (some 45) rfl (by kernel_rfl) 5 (.tmp 44) rfl (g) (2 + k) (by kernel_rfl) (fun w1 h1 => h1.blk (g, F.vals, 31) (by simp)) (z := F.kind k) (Fld.vk HO.out hk2) Try.underlying5 ?_) | ((with_reducible refine q_auto (fun K hK => ?_)); go_simp; refine hK _ ?_; clear hK K))
          refine wpQuiet_nil ?_
          intro w3 hc3
          have HC3 : Hid (Below w.heap.size w w3) := Lib.hid (HBW.out.trans (hc3.below.mono HBW.out.size))
          clear hc3
          go_wp2
          go_ret
          exact ⟨ret_bool HN.out.symm, HC3.out⟩
        case false =>
          cases hs : seenTo xs i (k : Int)
          case true =>
            have HS := Lib.hid hs
            have HY := Lib.hid h3
            clear hs
            have HN := Lib.hid (HNo.out (by rw [HQ.out, HS.out, HY.out]; rfl))
            repeat (first | ((with_reducible refine q_gate (some 27) rfl ?_); refine q_load (some 27) rfl (by kernel_rfl) 61 (.tmp 7) rfl (wr.heap.size) (0) (by kernel_rfl) (scVals x) _ (fun w1 h1 => h1.blk (wr.heap.size, scVals x, 61) (by simp)) (rfl) Try.underlying61 rfl (by kernel_rfl) ?_) | ((with_reducible refine q_gate (some 28) rfl ?_); refine q_call (some 28) rfl (by kernel_rfl) Try.func52 (by kernel_rfl) rfl #[.agg (scVals x).toArray] rfl (by simp only [List.map_toArray, List.map_cons, List.map_nil]; kernel_rfl) (.bool (scPlain x)) (fun w1 h1 => h1.calls (shape_any x HXi.out w1)) ?_; rw [HP.out]) | ((with_reducible refine q_gate (some 33) rfl ?_); refine q_cell (some 33) rfl (by kernel_rfl) 24 (.tmp 32) rfl (wr.heap.size) (0) (by kernel_rfl) (fun w1 h1 => h1.blk (wr.heap.size, scVals x, 61) (by simp)) (z := (k : Int)) (HK0.out) Try.underlying24 ?_) | ((with_reducible refine q_gate (some 35) rfl ?_); refine q_call (some 35) rfl (by kernel_rfl) Try.func53 (by kernel_rfl) rfl #[.pointer (some ⟨g, 0, none⟩), .int .i64 (k : Int)] rfl (by simp only [List.map_toArray, List.map_cons, List.map_nil]; kernel_rfl) (.bool (F.has (k : Int))) (fun w1 h1 => h1.calls' (is_any F g (k : Int) w1 (h1.blk (g, F.vals, 31) (by simp)) HO.out)) ?_; rw [HH.out]) | ((with_reducible refine q_gate (some 41) rfl ?_); refine q_cell (some 41) rfl (by kernel_rfl) 24 (.tmp 40) rfl (wr.heap.size) (0) (by kernel_rfl) (fun w1 h1 => h1.blk (wr.heap.size, scVals x, 61) (by simp)) (z := (k : Int)) (HK0.out) Try.underlying24 ?_) | ((with_reducible refine q_gate (some 45) rfl ?_); refine q_cell (some 45) rfl (by kernel_rfl) 5 (.tmp 44) rfl (g) (2 + k) (by kernel_rfl) (fun w1 h1 => h1.blk (g, F.vals, 31) (by simp)) (z := F.kind k) (Fld.vk HO.out hk2) Try.underlying5 ?_) | ((with_reducible refine q_gate (some 50) rfl ?_); refine q_cell (some 50) rfl (by kernel_rfl) 24 (.tmp 49) rfl (wr.heap.size) (0) (by kernel_rfl) (fun w1 h1 => h1.blk (wr.heap.size, scVals x, 61) (by simp)) (z := (k : Int)) (HK0.out) Try.underlying24 ?_) | ((with_reducible refine q_gate (some 52) rfl ?_); refine q_bcell (some 52) rfl (by kernel_rfl) 4 (.tmp 51) rfl sb k (by kernel_rfl) (fun w1 h1 => h1.blk (sb, brow (fun c => seenTo xs i (c : Int)), 85) (by simp)) (z := seenTo xs i (k : Int)) (brow_get (fun c => seenTo xs i (c : Int)) hk2) Try.underlying4 ?_; rw [HS.out]) | ((with_reducible refine q_auto (fun K hK => ?_)); go_simp; refine hK _ ?_; clear hK K))
            refine wpQuiet_nil ?_
            intro w3 hc3
            have HC3 : Hid (Below w.heap.size w w3) := Lib.hid (HBW.out.trans (hc3.below.mono HBW.out.size))
            clear hc3
            go_wp2
            go_ret
            exact ⟨ret_bool HN.out.symm, HC3.out⟩
          case false =>
            have HS := Lib.hid hs
            have HY : Hid (scAt F xs i = true) := Lib.hid (by rw [HQ.out, h3, hs]; rfl)
            clear hs
            repeat (first | ((with_reducible refine q_gate (some 27) rfl ?_); refine q_load (some 27) rfl (by kernel_rfl) 61 (.tmp 7) rfl (wr.heap.size) (0) (by kernel_rfl) (scVals x) _ (fun w1 h1 => h1.blk (wr.heap.size, scVals x, 61) (by simp)) (rfl) Try.underlying61 rfl (by kernel_rfl) ?_) | ((with_reducible refine q_gate (some 28) rfl ?_); refine q_call (some 28) rfl (by kernel_rfl) Try.func52 (by kernel_rfl) rfl #[.agg (scVals x).toArray] rfl (by simp only [List.map_toArray, List.map_cons, List.map_nil]; kernel_rfl) (.bool (scPlain x)) (fun w1 h1 => h1.calls (shape_any x HXi.out w1)) ?_; rw [HP.out]) | ((with_reducible refine q_gate (some 33) rfl ?_); refine q_cell (some 33) rfl (by kernel_rfl) 24 (.tmp 32) rfl (wr.heap.size) (0) (by kernel_rfl) (fun w1 h1 => h1.blk (wr.heap.size, scVals x, 61) (by simp)) (z := (k : Int)) (HK0.out) Try.underlying24 ?_) | ((with_reducible refine q_gate (some 35) rfl ?_); refine q_call (some 35) rfl (by kernel_rfl) Try.func53 (by kernel_rfl) rfl #[.pointer (some ⟨g, 0, none⟩), .int .i64 (k : Int)] rfl (by simp only [List.map_toArray, List.map_cons, List.map_nil]; kernel_rfl) (.bool (F.has (k : Int))) (fun w1 h1 => h1.calls' (is_any F g (k : Int) w1 (h1.blk (g, F.vals, 31) (by simp)) HO.out)) ?_; rw [HH.out]) | ((with_reducible refine q_gate (some 41) rfl ?_); refine q_cell (some 41) rfl (by kernel_rfl) 24 (.tmp 40) rfl (wr.heap.size) (0) (by kernel_rfl) (fun w1 h1 => h1.blk (wr.heap.size, scVals x, 61) (by simp)) (z := (k : Int)) (HK0.out) Try.underlying24 ?_) | ((with_reducible refine q_gate (some 45) rfl ?_); refine q_cell (some 45) rfl (by kernel_rfl) 5 (.tmp 44) rfl (g) (2 + k) (by kernel_rfl) (fun w1 h1 => h1.blk (g, F.vals, 31) (by simp)) (z := F.kind k) (Fld.vk HO.out hk2) Try.underlying5 ?_) | ((with_reducible refine q_gate (some 50) rfl ?_); refine q_cell (some 50) rfl (by kernel_rfl) 24 (.tmp 49) rfl (wr.heap.size) (0) (by kernel_rfl) (fun w1 h1 => h1.blk (wr.heap.size, scVals x, 61) (by simp)) (z := (k : Int)) (HK0.out) Try.underlying24 ?_) | ((with_reducible refine q_gate (some 52) rfl ?_); refine q_bcell (some 52) rfl (by kernel_rfl) 4 (.tmp 51) rfl sb k (by kernel_rfl) (fun w1 h1 => h1.blk (sb, brow (fun c => seenTo xs i (c : Int)), 85) (by simp)) (z := seenTo xs i (k : Int)) (brow_get (fun c => seenTo xs i (c : Int)) hk2) Try.underlying4 ?_; rw [HS.out]) | ((with_reducible refine q_auto (fun K hK => ?_)); go_simp; refine hK _ ?_; clear hK K))
            refine wpQuiet_nil ?_
            intro w3 hc3
            have HC3 := Lib.hid hc3
            clear hc3
            have c0 : w3.cell? ⟨wr.heap.size, 0, none⟩ = some (.int .i16 (k : Int)) := (HC3.out.blk (wr.heap.size, scVals x, 61) (by simp)).cell HK0.out
            have HB3 : Hid (Blk w3 sb (brow (fun c => seenTo xs i (c : Int))) 85) := Lib.hid (HC3.out.blk (sb, brow (fun c => seenTo xs i (c : Int)), 85) (by simp))
            have cs : w3.cell? ⟨sb, k, none⟩ = some (.bool (seenTo xs i (k : Int))) := HB3.out.cell (brow_get _ hk2)
            have fr : w3.frozen? ⟨sb, k, none⟩ = false := HB3.out.free k
            have HK3 : Hid (Kept sb W w3) := Lib.hid (HK2.out.step HC3.out.below)
            go_wp2
            go_roundw
            case rel => exact ⟨i + 1, by omega, by go_num, Lib.hid (fun j hj => by
              rcases Nat.lt_or_ge j i with h | h
              · exact HR.out j h
              · have e : j = i := by omega
                rw [e]; exact HY.out), Lib.hid (HK3.out.set _ _), Lib.hid (by
                  have e : brow (fun c => seenTo xs (i + 1) (c : Int)) = (brow (fun c => seenTo xs i (c : Int))).set k (.bool true) := by
                    rw [brow_set _ hk2]
                    congr 1
                    funext c
                    rw [HSn.out, HKX.out]
                    congr 1
                    rw [Bool.eq_iff_iff, beq_iff_eq, decide_eq_true_eq]
                    omega
                  rw [e]
                  exact HB3.out.set _ _)⟩
            case measure => simp only [intOf]; omega
end Go.Proofs.Ytndhmcjcnmiobaa
