/- Nets of a field: whether one is as told, by the program and by the reference. No condition but that the numbers are within their kinds. -/
import Derived.Test.YtndhmcjcnmiobaaN2
import Derived.Test.YtndhmcjcnmiobaaGC
namespace Go.Proofs.Ytndhmcjcnmiobaa
open Go.RowKit Go.Proofs.YtndhmcjcnmiobaaW.PrintWords Go.Proofs.YtndhmcjcnmiobaaW.PrintLast Go.Proofs.YtndhmcjcnmiobaaW.PrintMore Go.Proofs.Ytndhmcjcnmiobaa.PAll
set_option linter.unusedSimpArgs false
set_option linter.unusedVariables false

def netSet (F : Fld) (n : Nt) : Bool := allB 100 (fun i => !(n.inside (i : Int) && (F.kind i == 3)))
def netB (F : Fld) (n : Nt) : Bool := inB n.x 0 (F.wide - 1) && (inB n.y 0 (F.high - 1) && (inB n.wide 1 (F.wide - n.x) && (inB n.high 1 (F.high - n.y) && netSet F n)))
def netI (F : Fld) (n : Nt) : Bool := n.plain && (decide (n.x + n.wide ≤ F.wide) && (decide (n.y + n.high ≤ F.high) && (setTo (fun j => hasN (setTo (fun j => n.inside (j : Int)) 100) j && hasN (setTo (fun j => F.has (j : Int) && (F.kind j == 3)) 100) j) 100 == [0, 0])))
theorem net_set {F : Fld} (hv : F.Valid) (n : Nt) : (setTo (fun j => hasN (setTo (fun j => n.inside (j : Int)) 100) j && hasN (setTo (fun j => F.has (j : Int) && (F.kind j == 3)) 100) j) 100 == [0, 0]) = netSet F n := by
  rw [setTo_empty]
  unfold netSet
  rw [Bool.eq_iff_iff]
  have key : ∀ j, j < 100 → (!(hasN (setTo (fun j => n.inside (j : Int)) 100) j && hasN (setTo (fun j => F.has (j : Int) && (F.kind j == 3)) 100) j)) = !(n.inside (j : Int) && (F.kind j == 3)) := fun j hj => by
    rw [hasN_setTo _ (by omega), hasN_setTo _ (by omega), decide_eq_true hj, Bool.true_and, Bool.true_and]
    cases hh : F.has (j : Int)
    · rw [(hv.c j hj).hk hh]
      simp
    · simp
  constructor
  · intro h
    refine allB_yes fun j hj => ?_
    rw [← key j hj]
    exact List.all_eq_true.1 h j (List.mem_range.2 hj)
  · intro h
    refine allB_yes fun j hj => ?_
    rw [key j hj]
    exact List.all_eq_true.1 h j (List.mem_range.2 hj)
theorem net_same {F : Fld} (hv : F.Valid) (n : Nt) : netI F n = netB F n := by
  unfold netI netB
  rw [net_set hv n]
  have h1 := inB_iff.1 hv.w
  have h2 := inB_iff.1 hv.h
  cases netSet F n
  · simp
  · rw [Bool.eq_iff_iff]
    unfold Nt.plain
    simp only [Bool.and_eq_true, inB_iff, decide_eq_true_eq, and_true]
    omega

set_option maxHeartbeats 4000000 in
theorem l04Net_any (F : Fld) (hF : F.Ok) (n : Nt) (hn : n.Ok) (hv : F.Valid) (g : Nat) (w : World) (hf : IsF w g F) :
    Calls Try.prog 36 #[.pointer (some ⟨g, 0, none⟩), .agg n.vals.toArray] w fun e w' => e = .returned (.bool (netB F n)) ∧ Below w.heap.size w w' := by
  have HF := Lib.hid hf
  have HO := Lib.hid hF
  have HN := Lib.hid hn
  have hfl := hf.lt
  obtain ⟨v1, v2⟩ := inB_iff.1 hv.w
  obtain ⟨v3, v4⟩ := inB_iff.1 hv.h
  clear hf hF hv
  obtain ⟨x0, x1, y0, y1, w0, w1, h0, h1⟩ := hn
  go_enter Try.func36, Try.ntmps36
  go_upto_region 1 with (fail)
  obtain ⟨W, hW⟩ : ∃ W, W = w.alloc (.cells n.vals.toArray 40) := ⟨_, rfl⟩
  have HC : Hid (Cls w [(w.heap.size, n.vals, 40), (g, F.vals, 31)] W) := Lib.hid (by
    rw [hW]
    refine ⟨(Below.refl _ _).alloc (Nat.le_refl _) _, fun y hy => ?_⟩
    rcases List.mem_cons.1 hy with rfl | hy
    · exact Blk.new' _ _ _
    · rw [List.mem_singleton.1 hy]; exact HF.out.alloc _)
  rw [← hW]
  clear hW
  have c0 : W.cell? ⟨w.heap.size, 0, none⟩ = some (.int .i8 n.x) := (HC.out.blk (w.heap.size, n.vals, 40) (by simp)).cell rfl
  have c1 : W.cell? ⟨w.heap.size, 1, none⟩ = some (.int .i8 n.y) := (HC.out.blk (w.heap.size, n.vals, 40) (by simp)).cell rfl
  go_upto_region 3 with (fail)
  clear c0 c1
  refine wp_region_class (Cls w [(w.heap.size, n.vals, 40), (g, F.vals, 31)]) (by kernel_rfl) (by kernel_rfl) HC.out.drew ?_
  have e0 : IntKind.i64.wrap (F.wide) = F.wide := by rw [IntKind.wrap_i64]; omega
  have e1 : IntKind.i64.wrap (F.high) = F.high := by rw [IntKind.wrap_i64]; omega
  have e2 : IntKind.i64.wrap (n.wide) = n.wide := by rw [IntKind.wrap_i64]; omega
  have e3 : IntKind.i64.wrap (n.high) = n.high := by rw [IntKind.wrap_i64]; omega
  have e4 : IntKind.i64.wrap (F.wide - 1) = F.wide - 1 := by rw [IntKind.wrap_i64]; omega
  have e5 : IntKind.i64.wrap (F.high - 1) = F.high - 1 := by rw [IntKind.wrap_i64]; omega
  have e6 : IntKind.i64.wrap (F.wide - n.x) = F.wide - n.x := by rw [IntKind.wrap_i64]; omega
  have e7 : IntKind.i64.wrap (F.high - n.y) = F.high - n.y := by rw [IntKind.wrap_i64]; omega
  cases b1 : inB n.x 0 (F.wide - 1)
  · have B1 := Lib.hid b1
    clear b1
    have HZ : Hid (netB F n = false) := Lib.hid (by unfold netB; rw [B1.out]; rfl)
    repeat (first | ((with_reducible refine q_gate (some 18) rfl ?_); refine q_cell (some 18) rfl (by kernel_rfl) 22 (.tmp 17) rfl (g) (0) (by kernel_rfl) (fun w1 h1 => h1.blk (g, F.vals, 31) (by simp)) (z := F.wide) (rfl) Try.underlying22 ?_) | ((with_reducible refine q_gate (some 21) rfl ?_); refine q_call (some 21) rfl (by kernel_rfl) Try.func59 (by kernel_rfl) rfl #[.int .i64 n.x, .int .i64 0, .int .i64 (F.wide - 1)] rfl (by simp only [List.map_toArray, List.map_cons, List.map_nil]; kernel_rfl) (.bool (inB n.x 0 (F.wide - 1))) (fun w1 h1 => h1.calls' (in_any n.x 0 (F.wide - 1) w1)) ?_; rw [B1.out]) | ((with_reducible refine q_auto (fun K hK => ?_)); go_simp; refine hK _ ?_; clear hK K))
    refine wpQuiet_nil ?_
    intro w3 hc3
    have HC3 := Lib.hid hc3
    clear hc3
    go_wp2
    go_ret
    exact ⟨ret_bool HZ.out.symm, HC3.out.below⟩
  · have B1 := Lib.hid b1
    clear b1
    cases b2 : inB n.y 0 (F.high - 1)
    · have B2 := Lib.hid b2
      clear b2
      have HZ : Hid (netB F n = false) := Lib.hid (by unfold netB; rw [B1.out, B2.out]; rfl)
      repeat (first | ((with_reducible refine q_gate (some 18) rfl ?_); refine q_cell (some 18) rfl (by kernel_rfl) 22 (.tmp 17) rfl (g) (0) (by kernel_rfl) (fun w1 h1 => h1.blk (g, F.vals, 31) (by simp)) (z := F.wide) (rfl) Try.underlying22 ?_) | ((with_reducible refine q_gate (some 28) rfl ?_); refine q_cell (some 28) rfl (by kernel_rfl) 22 (.tmp 27) rfl (g) (1) (by kernel_rfl) (fun w1 h1 => h1.blk (g, F.vals, 31) (by simp)) (z := F.high) (rfl) Try.underlying22 ?_) | ((with_reducible refine q_gate (some 21) rfl ?_); refine q_call (some 21) rfl (by kernel_rfl) Try.func59 (by kernel_rfl) rfl #[.int .i64 n.x, .int .i64 0, .int .i64 (F.wide - 1)] rfl (by simp only [List.map_toArray, List.map_cons, List.map_nil]; kernel_rfl) (.bool (inB n.x 0 (F.wide - 1))) (fun w1 h1 => h1.calls' (in_any n.x 0 (F.wide - 1) w1)) ?_; rw [B1.out]) | ((with_reducible refine q_gate (some 31) rfl ?_); refine q_call (some 31) rfl (by kernel_rfl) Try.func59 (by kernel_rfl) rfl #[.int .i64 n.y, .int .i64 0, .int .i64 (F.high - 1)] rfl (by simp only [List.map_toArray, List.map_cons, List.map_nil]; kernel_rfl) (.bool (inB n.y 0 (F.high - 1))) (fun w1 h1 => h1.calls' (in_any n.y 0 (F.high - 1) w1)) ?_; rw [B2.out]) | ((with_reducible refine q_auto (fun K hK => ?_)); go_simp; refine hK _ ?_; clear hK K))
      refine wpQuiet_nil ?_
      intro w3 hc3
      have HC3 := Lib.hid hc3
      clear hc3
      go_wp2
      go_ret
      exact ⟨ret_bool HZ.out.symm, HC3.out.below⟩
    · have B2 := Lib.hid b2
      clear b2
      cases b3 : inB n.wide 1 (F.wide - n.x)
      · have B3 := Lib.hid b3
        clear b3
        have HZ : Hid (netB F n = false) := Lib.hid (by unfold netB; rw [B1.out, B2.out, B3.out]; rfl)
        repeat (first | ((with_reducible refine q_gate (some 18) rfl ?_); refine q_cell (some 18) rfl (by kernel_rfl) 22 (.tmp 17) rfl (g) (0) (by kernel_rfl) (fun w1 h1 => h1.blk (g, F.vals, 31) (by simp)) (z := F.wide) (rfl) Try.underlying22 ?_) | ((with_reducible refine q_gate (some 28) rfl ?_); refine q_cell (some 28) rfl (by kernel_rfl) 22 (.tmp 27) rfl (g) (1) (by kernel_rfl) (fun w1 h1 => h1.blk (g, F.vals, 31) (by simp)) (z := F.high) (rfl) Try.underlying22 ?_) | ((with_reducible refine q_gate (some 36) rfl ?_); refine q_cell (some 36) rfl (by kernel_rfl) 22 (.tmp 35) rfl (w.heap.size) (2) (by kernel_rfl) (fun w1 h1 => h1.blk (w.heap.size, n.vals, 40) (by simp)) (z := n.wide) (rfl) Try.underlying22 ?_) | ((with_reducible refine q_gate (some 41) rfl ?_); refine q_cell (some 41) rfl (by kernel_rfl) 22 (.tmp 40) rfl (g) (0) (by kernel_rfl) (fun w1 h1 => h1.blk (g, F.vals, 31) (by simp)) (z := F.wide) (rfl) Try.underlying22 ?_) | ((with_reducible refine q_gate (some 21) rfl ?_); refine q_call (some 21) rfl (by kernel_rfl) Try.func59 (by kernel_rfl) rfl #[.int .i64 n.x, .int .i64 0, .int .i64 (F.wide - 1)] rfl (by simp only [List.map_toArray, List.map_cons, List.map_nil]; kernel_rfl) (.bool (inB n.x 0 (F.wide - 1))) (fun w1 h1 => h1.calls' (in_any n.x 0 (F.wide - 1) w1)) ?_; rw [B1.out]) | ((with_reducible refine q_gate (some 31) rfl ?_); refine q_call (some 31) rfl (by kernel_rfl) Try.func59 (by kernel_rfl) rfl #[.int .i64 n.y, .int .i64 0, .int .i64 (F.high - 1)] rfl (by simp only [List.map_toArray, List.map_cons, List.map_nil]; kernel_rfl) (.bool (inB n.y 0 (F.high - 1))) (fun w1 h1 => h1.calls' (in_any n.y 0 (F.high - 1) w1)) ?_; rw [B2.out]) | ((with_reducible refine q_gate (some 45) rfl ?_); refine q_call (some 45) rfl (by kernel_rfl) Try.func59 (by kernel_rfl) rfl #[.int .i64 n.wide, .int .i64 1, .int .i64 (F.wide - n.x)] rfl (by simp only [List.map_toArray, List.map_cons, List.map_nil]; kernel_rfl) (.bool (inB n.wide 1 (F.wide - n.x))) (fun w1 h1 => h1.calls' (in_any n.wide 1 (F.wide - n.x) w1)) ?_; rw [B3.out]) | ((with_reducible refine q_auto (fun K hK => ?_)); go_simp; refine hK _ ?_; clear hK K))
        refine wpQuiet_nil ?_
        intro w3 hc3
        have HC3 := Lib.hid hc3
        clear hc3
        go_wp2
        go_ret
        exact ⟨ret_bool HZ.out.symm, HC3.out.below⟩
      · have B3 := Lib.hid b3
        clear b3
        cases b4 : inB n.high 1 (F.high - n.y)
        · have B4 := Lib.hid b4
          clear b4
          have HZ : Hid (netB F n = false) := Lib.hid (by unfold netB; rw [B1.out, B2.out, B3.out, B4.out]; rfl)
          repeat (first | ((with_reducible refine q_gate (some 18) rfl ?_); refine q_cell (some 18) rfl (by kernel_rfl) 22 (.tmp 17) rfl (g) (0) (by kernel_rfl) (fun w1 h1 => h1.blk (g, F.vals, 31) (by simp)) (z := F.wide) (rfl) Try.underlying22 ?_) | ((with_reducible refine q_gate (some 28) rfl ?_); refine q_cell (some 28) rfl (by kernel_rfl) 22 (.tmp 27) rfl (g) (1) (by kernel_rfl) (fun w1 h1 => h1.blk (g, F.vals, 31) (by simp)) (z := F.high) (rfl) Try.underlying22 ?_) | ((with_reducible refine q_gate (some 36) rfl ?_); refine q_cell (some 36) rfl (by kernel_rfl) 22 (.tmp 35) rfl (w.heap.size) (2) (by kernel_rfl) (fun w1 h1 => h1.blk (w.heap.size, n.vals, 40) (by simp)) (z := n.wide) (rfl) Try.underlying22 ?_) | ((with_reducible refine q_gate (some 41) rfl ?_); refine q_cell (some 41) rfl (by kernel_rfl) 22 (.tmp 40) rfl (g) (0) (by kernel_rfl) (fun w1 h1 => h1.blk (g, F.vals, 31) (by simp)) (z := F.wide) (rfl) Try.underlying22 ?_) | ((with_reducible refine q_gate (some 50) rfl ?_); refine q_cell (some 50) rfl (by kernel_rfl) 22 (.tmp 49) rfl (w.heap.size) (3) (by kernel_rfl) (fun w1 h1 => h1.blk (w.heap.size, n.vals, 40) (by simp)) (z := n.high) (rfl) Try.underlying22 ?_) | ((with_reducible refine q_gate (some 55) rfl ?_); refine q_cell (some 55) rfl (by kernel_rfl) 22 (.tmp 54) rfl (g) (1) (by kernel_rfl) (fun w1 h1 => h1.blk (g, F.vals, 31) (by simp)) (z := F.high) (rfl) Try.underlying22 ?_) | ((with_reducible refine q_gate (some 21) rfl ?_); refine q_call (some 21) rfl (by kernel_rfl) Try.func59 (by kernel_rfl) rfl #[.int .i64 n.x, .int .i64 0, .int .i64 (F.wide - 1)] rfl (by simp only [List.map_toArray, List.map_cons, List.map_nil]; kernel_rfl) (.bool (inB n.x 0 (F.wide - 1))) (fun w1 h1 => h1.calls' (in_any n.x 0 (F.wide - 1) w1)) ?_; rw [B1.out]) | ((with_reducible refine q_gate (some 31) rfl ?_); refine q_call (some 31) rfl (by kernel_rfl) Try.func59 (by kernel_rfl) rfl #[.int .i64 n.y, .int .i64 0, .int .i64 (F.high - 1)] rfl (by simp only [List.map_toArray, List.map_cons, List.map_nil]; kernel_rfl) (.bool (inB n.y 0 (F.high - 1))) (fun w1 h1 => h1.calls' (in_any n.y 0 (F.high - 1) w1)) ?_; rw [B2.out]) | ((with_reducible refine q_gate (some 45) rfl ?_); refine q_call (some 45) rfl (by kernel_rfl) Try.func59 (by kernel_rfl) rfl #[.int .i64 n.wide, .int .i64 1, .int .i64 (F.wide - n.x)] rfl (by simp only [List.map_toArray, List.map_cons, List.map_nil]; kernel_rfl) (.bool (inB n.wide 1 (F.wide - n.x))) (fun w1 h1 => h1.calls' (in_any n.wide 1 (F.wide - n.x) w1)) ?_; rw [B3.out]) | ((with_reducible refine q_gate (some 59) rfl ?_); refine q_call (some 59) rfl (by kernel_rfl) Try.func59 (by kernel_rfl) rfl #[.int .i64 n.high, .int .i64 1, .int .i64 (F.high - n.y)] rfl (by simp only [List.map_toArray, List.map_cons, List.map_nil]; kernel_rfl) (.bool (inB n.high 1 (F.high - n.y))) (fun w1 h1 => h1.calls' (in_any n.high 1 (F.high - n.y) w1)) ?_; rw [B4.out]) | ((with_reducible refine q_auto (fun K hK => ?_)); go_simp; refine hK _ ?_; clear hK K))
          refine wpQuiet_nil ?_
          intro w3 hc3
          have HC3 := Lib.hid hc3
          clear hc3
          go_wp2
          go_ret
          exact ⟨ret_bool HZ.out.symm, HC3.out.below⟩
        · have B4 := Lib.hid b4
          clear b4
          have HZ : Hid (netB F n = netSet F n) := Lib.hid (by unfold netB; rw [B1.out, B2.out, B3.out, B4.out]; rfl)
          repeat (first | ((with_reducible refine q_gate (some 18) rfl ?_); refine q_cell (some 18) rfl (by kernel_rfl) 22 (.tmp 17) rfl (g) (0) (by kernel_rfl) (fun w1 h1 => h1.blk (g, F.vals, 31) (by simp)) (z := F.wide) (rfl) Try.underlying22 ?_) | ((with_reducible refine q_gate (some 28) rfl ?_); refine q_cell (some 28) rfl (by kernel_rfl) 22 (.tmp 27) rfl (g) (1) (by kernel_rfl) (fun w1 h1 => h1.blk (g, F.vals, 31) (by simp)) (z := F.high) (rfl) Try.underlying22 ?_) | ((with_reducible refine q_gate (some 36) rfl ?_); refine q_cell (some 36) rfl (by kernel_rfl) 22 (.tmp 35) rfl (w.heap.size) (2) (by kernel_rfl) (fun w1 h1 => h1.blk (w.heap.size, n.vals, 40) (by simp)) (z := n.wide) (rfl) Try.underlying22 ?_) | ((with_reducible refine q_gate (some 41) rfl ?_); refine q_cell (some 41) rfl (by kernel_rfl) 22 (.tmp 40) rfl (g) (0) (by kernel_rfl) (fun w1 h1 => h1.blk (g, F.vals, 31) (by simp)) (z := F.wide) (rfl) Try.underlying22 ?_) | ((with_reducible refine q_gate (some 50) rfl ?_); refine q_cell (some 50) rfl (by kernel_rfl) 22 (.tmp 49) rfl (w.heap.size) (3) (by kernel_rfl) (fun w1 h1 => h1.blk (w.heap.size, n.vals, 40) (by simp)) (z := n.high) (rfl) Try.underlying22 ?_) | ((with_reducible refine q_gate (some 55) rfl ?_); refine q_cell (some 55) rfl (by kernel_rfl) 22 (.tmp 54) rfl (g) (1) (by kernel_rfl) (fun w1 h1 => h1.blk (g, F.vals, 31) (by simp)) (z := F.high) (rfl) Try.underlying22 ?_) | ((with_reducible refine q_gate (some 21) rfl ?_); refine q_call (some 21) rfl (by kernel_rfl) Try.func59 (by kernel_rfl) rfl #[.int .i64 n.x, .int .i64 0, .int .i64 (F.wide - 1)] rfl (by simp only [List.map_toArray, List.map_cons, List.map_nil]; kernel_rfl) (.bool (inB n.x 0 (F.wide - 1))) (fun w1 h1 => h1.calls' (in_any n.x 0 (F.wide - 1) w1)) ?_; rw [B1.out]) | ((with_reducible refine q_gate (some 31) rfl ?_); refine q_call (some 31) rfl (by kernel_rfl) Try.func59 (by kernel_rfl) rfl #[.int .i64 n.y, .int .i64 0, .int .i64 (F.high - 1)] rfl (by simp only [List.map_toArray, List.map_cons, List.map_nil]; kernel_rfl) (.bool (inB n.y 0 (F.high - 1))) (fun w1 h1 => h1.calls' (in_any n.y 0 (F.high - 1) w1)) ?_; rw [B2.out]) | ((with_reducible refine q_gate (some 45) rfl ?_); refine q_call (some 45) rfl (by kernel_rfl) Try.func59 (by kernel_rfl) rfl #[.int .i64 n.wide, .int .i64 1, .int .i64 (F.wide - n.x)] rfl (by simp only [List.map_toArray, List.map_cons, List.map_nil]; kernel_rfl) (.bool (inB n.wide 1 (F.wide - n.x))) (fun w1 h1 => h1.calls' (in_any n.wide 1 (F.wide - n.x) w1)) ?_; rw [B3.out]) | ((with_reducible refine q_gate (some 59) rfl ?_); refine q_call (some 59) rfl (by kernel_rfl) Try.func59 (by kernel_rfl) rfl #[.int .i64 n.high, .int .i64 1, .int .i64 (F.high - n.y)] rfl (by simp only [List.map_toArray, List.map_cons, List.map_nil]; kernel_rfl) (.bool (inB n.high 1 (F.high - n.y))) (fun w1 h1 => h1.calls' (in_any n.high 1 (F.high - n.y) w1)) ?_; rw [B4.out]) | ((with_reducible refine q_auto (fun K hK => ?_)); go_simp; refine hK _ ?_; clear hK K))
          refine wpQuiet_nil ?_
          intro w3 hc3
          have HC3 := Lib.hid hc3
          clear hc3 e0 e1 e2 e3 e4 e5 e6 e7
          go_wp2
          go_loopw [7] (fun v wr => ∃ i : Nat, i ≤ 100 ∧ v = .int .i64 i ∧ Hid (∀ j : Nat, j < i → (!(n.inside (j : Int) && (F.kind j == 3))) = true) ∧ Hid (Cls w [(w.heap.size, n.vals, 40), (g, F.vals, 31)] wr)) (fun v _ => 100 - (intOf v).toNat)
          case atStart => exact ⟨0, by omega, rfl, Lib.hid (fun j hj => by omega), HC3⟩
          case round =>
            obtain ⟨i, hi, rfl, HR, HC4⟩ := hrel
            by_cases hlt : i < 100
            · have ck : wr.cell? ⟨g, 2 + i, none⟩ = some (.int .u8 (F.kind i)) := (HC4.out.blk (g, F.vals, 31) (by simp)).cell (Fld.vk HO.out hlt)
              obtain ⟨kb0, kb1⟩ := HO.out.kb i
              cases h2 : n.inside (i : Int)
              · have HV := Lib.hid h2
                have HG : Hid ((!(n.inside (i : Int) && (F.kind i == 3))) = true) := Lib.hid (by rw [h2]; rfl)
                clear h2 ck
                go_wp2_with (first
                  | (with_reducible refine wpList_load_blk rfl 40 (.tmp 3) rfl _ 0 rfl n.vals _ (HC4.out.blk (w.heap.size, n.vals, 40) (by simp)) rfl Try.underlying40 rfl (by kernel_rfl) ?_)
                  | (go_at_call 62; refine (inside_any n HN.out hlt _).mono ?_; rintro e w5 ⟨rfl, hb⟩; rw [HV.out]; have HC5 := Lib.hid (HC4.out.step hb); clear hb))
                go_roundw
                case rel => exact ⟨i + 1, by omega, by go_num, Lib.hid (fun j hj => by
                  rcases Nat.lt_or_ge j i with h | h
                  · exact HR.out j h
                  · have e : j = i := by omega
                    rw [e]; exact HG.out), HC5⟩
                case measure => simp only [intOf]; omega
              · have HV := Lib.hid h2
                by_cases h3 : F.kind i = 3
                · have HZ2 : Hid (netB F n = false) := Lib.hid (by rw [HZ.out]; unfold netSet; exact allB_no i hlt (by rw [h2, h3]; rfl))
                  rw [h3] at ck
                  clear h2 kb0 kb1
                  go_wp2_with (first
                    | (with_reducible refine wpList_load_blk rfl 40 (.tmp 3) rfl _ 0 rfl n.vals _ (HC4.out.blk (w.heap.size, n.vals, 40) (by simp)) rfl Try.underlying40 rfl (by kernel_rfl) ?_)
                    | (go_at_call 62; refine (inside_any n HN.out hlt _).mono ?_; rintro e w5 ⟨rfl, hb⟩; rw [HV.out]; have HC5 := Lib.hid (HC4.out.step hb); clear hb; have ck5 : w5.cell? ⟨g, 2 + i, none⟩ = some (.int .u8 3) := (by rw [← h3]; exact (HC5.out.blk (g, F.vals, 31) (by simp)).cell (Fld.vk HO.out hlt))))
                  go_ret
                  exact ⟨ret_bool HZ2.out.symm, HC5.out.below⟩
                · have HG : Hid ((!(n.inside (i : Int) && (F.kind i == 3))) = true) := Lib.hid (by simp [h3])
                  clear h2 ck
                  go_wp2_with (first
                    | (with_reducible refine wpList_load_blk rfl 40 (.tmp 3) rfl _ 0 rfl n.vals _ (HC4.out.blk (w.heap.size, n.vals, 40) (by simp)) rfl Try.underlying40 rfl (by kernel_rfl) ?_)
                    | (go_at_call 62; refine (inside_any n HN.out hlt _).mono ?_; rintro e w5 ⟨rfl, hb⟩; rw [HV.out]; have HC5 := Lib.hid (HC4.out.step hb); clear hb; have ck5 : w5.cell? ⟨g, 2 + i, none⟩ = some (.int .u8 (F.kind i)) := (HC5.out.blk (g, F.vals, 31) (by simp)).cell (Fld.vk HO.out hlt)))
                  go_roundw
                  case rel => exact ⟨i + 1, by omega, by go_num, Lib.hid (fun j hj => by
                    rcases Nat.lt_or_ge j i with h | h
                    · exact HR.out j h
                    · have e : j = i := by omega
                      rw [e]; exact HG.out), HC5⟩
                  case measure => simp only [intOf]; omega
            · have HZ2 : Hid (netB F n = true) := Lib.hid (by rw [HZ.out]; exact allB_yes fun j hj => HR.out j (by omega))
              go_wp2
              go_ret
              exact ⟨ret_bool HZ2.out.symm, HC4.out.below⟩

set_option maxHeartbeats 8000000 in
theorem isNet_any (F : Fld) (hF : F.Ok) (n : Nt) (hn : n.Ok) (hv : F.Valid) (g : Nat) (w : World) (hf : IsF w g F) :
    Calls Try.prog 37 #[.pointer (some ⟨g, 0, none⟩), .agg n.vals.toArray] w fun e w' => e = .returned (.bool (netB F n)) ∧ Below w.heap.size w w' := by
  have HF := Lib.hid hf
  have HO := Lib.hid hF
  have HN := Lib.hid hn
  have HS := Lib.hid (net_same hv n)
  have hfl := hf.lt
  have hz := zeroCells
  obtain ⟨v1, v2⟩ := inB_iff.1 hv.w
  obtain ⟨v3, v4⟩ := inB_iff.1 hv.h
  clear hf hF hv
  obtain ⟨x0, x1, y0, y1, w0, w1, h0, h1⟩ := hn
  go_enter Try.func37, Try.ntmps37
  go_upto_region 1 with (fail)
  obtain ⟨W, hW⟩ : ∃ W, W = w.alloc (.cells n.vals.toArray 40) := ⟨_, rfl⟩
  have HC : Hid (Cls w [(w.heap.size, n.vals, 40), (g, F.vals, 31)] W) := Lib.hid (by
    rw [hW]
    refine ⟨(Below.refl _ _).alloc (Nat.le_refl _) _, fun y hy => ?_⟩
    rcases List.mem_cons.1 hy with rfl | hy
    · exact Blk.new' _ _ _
    · rw [List.mem_singleton.1 hy]; exact HF.out.alloc _)
  rw [← hW]
  clear hW
  refine wp_region_class (Cls w [(w.heap.size, n.vals, 40), (g, F.vals, 31)]) (by kernel_rfl) (by kernel_rfl) HC.out.drew ?_
  cases b1 : n.plain
  · have B1 := Lib.hid b1
    have HZ : Hid (netB F n = false) := Lib.hid (by rw [← HS.out]; unfold netI; rw [b1]; rfl)
    clear b1
    repeat (first | ((with_reducible refine q_gate (some 5) rfl ?_); refine q_load (some 5) rfl (by kernel_rfl) 40 (.tmp 3) rfl (w.heap.size) (0) (by kernel_rfl) (n.vals) _ (fun w1 h1 => h1.blk (w.heap.size, n.vals, 40) (by simp)) (rfl) Try.underlying40 rfl (by kernel_rfl) ?_) | ((with_reducible refine q_gate (some 6) rfl ?_); refine q_call (some 6) rfl (by kernel_rfl) Try.func63 (by kernel_rfl) rfl #[.agg n.vals.toArray] rfl (by simp only [List.map_toArray, List.map_cons, List.map_nil]; kernel_rfl) (.bool n.plain) (fun w1 h1 => h1.calls (nPlain_any n HN.out w1)) ?_; rw [B1.out]) | ((with_reducible refine q_auto (fun K hK => ?_)); go_simp; refine hK _ ?_; clear hK K))
    refine wpQuiet_nil ?_
    intro w3 hc3
    have HC3 := Lib.hid hc3
    clear hc3
    go_wp2
    go_ret
    exact ⟨ret_bool HZ.out.symm, HC3.out.below⟩
  · have B1 := Lib.hid b1
    have hp := b1
    unfold Nt.plain at hp
    simp only [Bool.and_eq_true, inB_iff] at hp
    obtain ⟨⟨p1, p2⟩, ⟨p3, p4⟩, ⟨p5, p6⟩, p7, p8⟩ := hp
    clear b1
    have e1 : IntKind.i8.wrap (n.x + n.wide) = n.x + n.wide := by simp [IntKind.wrap, IntKind.bits, IntKind.signed]; omega
    have e2 : IntKind.i8.wrap (n.y + n.high) = n.y + n.high := by simp [IntKind.wrap, IntKind.bits, IntKind.signed]; omega
    by_cases b2 : n.x + n.wide ≤ F.wide
    · have e3 : decide (n.x + n.wide ≤ F.wide) = true := decide_eq_true b2
      by_cases b3 : n.y + n.high ≤ F.high
      · have e4 : decide (n.y + n.high ≤ F.high) = true := decide_eq_true b3
        have HFT : Hid n.Fits := Lib.hid ⟨p1, p3, p5, p7, by omega, by omega⟩
        cases b4 : (setTo (fun j => hasN (setTo (fun j => n.inside (j : Int)) 100) j && hasN (setTo (fun j => F.has (j : Int) && (F.kind j == 3)) 100) j) 100 == [0, 0])
        · have BE := Lib.hid b4
          have HZ : Hid (netB F n = false) := Lib.hid (by rw [← HS.out]; unfold netI; rw [b4, Bool.and_false, Bool.and_false, Bool.and_false])
          clear b4
          repeat (first | ((with_reducible refine q_gate (some 5) rfl ?_); refine q_load (some 5) rfl (by kernel_rfl) 40 (.tmp 3) rfl (w.heap.size) (0) (by kernel_rfl) (n.vals) _ (fun w1 h1 => h1.blk (w.heap.size, n.vals, 40) (by simp)) (rfl) Try.underlying40 rfl (by kernel_rfl) ?_) | ((with_reducible refine q_gate (some 6) rfl ?_); refine q_call (some 6) rfl (by kernel_rfl) Try.func63 (by kernel_rfl) rfl #[.agg n.vals.toArray] rfl (by simp only [List.map_toArray, List.map_cons, List.map_nil]; kernel_rfl) (.bool n.plain) (fun w1 h1 => h1.calls (nPlain_any n HN.out w1)) ?_; rw [B1.out]) | ((with_reducible refine q_gate (some 9) rfl ?_); refine q_cell (some 9) rfl (by kernel_rfl) 22 (.tmp 8) rfl (w.heap.size) (0) (by kernel_rfl) (fun w1 h1 => h1.blk (w.heap.size, n.vals, 40) (by simp)) (z := n.x) (rfl) Try.underlying22 ?_) | ((with_reducible refine q_gate (some 11) rfl ?_); refine q_cell (some 11) rfl (by kernel_rfl) 22 (.tmp 10) rfl (w.heap.size) (2) (by kernel_rfl) (fun w1 h1 => h1.blk (w.heap.size, n.vals, 40) (by simp)) (z := n.wide) (rfl) Try.underlying22 ?_) | ((with_reducible refine q_gate (some 16) rfl ?_); refine q_cell (some 16) rfl (by kernel_rfl) 22 (.tmp 15) rfl (g) (0) (by kernel_rfl) (fun w1 h1 => h1.blk (g, F.vals, 31) (by simp)) (z := F.wide) (rfl) Try.underlying22 ?_) | ((with_reducible refine q_gate (some 21) rfl ?_); refine q_cell (some 21) rfl (by kernel_rfl) 22 (.tmp 20) rfl (w.heap.size) (1) (by kernel_rfl) (fun w1 h1 => h1.blk (w.heap.size, n.vals, 40) (by simp)) (z := n.y) (rfl) Try.underlying22 ?_) | ((with_reducible refine q_gate (some 23) rfl ?_); refine q_cell (some 23) rfl (by kernel_rfl) 22 (.tmp 22) rfl (w.heap.size) (3) (by kernel_rfl) (fun w1 h1 => h1.blk (w.heap.size, n.vals, 40) (by simp)) (z := n.high) (rfl) Try.underlying22 ?_) | ((with_reducible refine q_gate (some 28) rfl ?_); refine q_cell (some 28) rfl (by kernel_rfl) 22 (.tmp 27) rfl (g) (1) (by kernel_rfl) (fun w1 h1 => h1.blk (g, F.vals, 31) (by simp)) (z := F.high) (rfl) Try.underlying22 ?_) | ((with_reducible refine q_gate (some 32) rfl ?_); refine q_load (some 32) rfl (by kernel_rfl) 40 (.tmp 3) rfl (w.heap.size) (0) (by kernel_rfl) (n.vals) _ (fun w1 h1 => h1.blk (w.heap.size, n.vals, 40) (by simp)) (rfl) Try.underlying40 rfl (by kernel_rfl) ?_) | ((with_reducible refine q_gate (some 33) rfl ?_); refine q_call (some 33) rfl (by kernel_rfl) Try.func41 (by kernel_rfl) rfl #[.agg n.vals.toArray] rfl (by simp only [List.map_toArray, List.map_cons, List.map_nil]; kernel_rfl) (.agg (vrow .u64 (setTo (fun j => n.inside (j : Int)) 100)).toArray) (fun w1 h1 => h1.calls (nCells_any n HFT.out w1)) ?_) | ((with_reducible refine q_gate (some 35) rfl ?_); refine q_call (some 35) rfl (by kernel_rfl) Try.func49 (by kernel_rfl) rfl #[.pointer (some ⟨g, 0, none⟩), .int .i64 3] rfl (by simp only [List.map_toArray, List.map_cons, List.map_nil]; kernel_rfl) (.agg (vrow .u64 (setTo (fun j => F.has (j : Int) && (F.kind j == 3)) 100)).toArray) (fun w1 h1 => h1.calls (ofKind_any F HO.out 3 g w1 (h1.blk (g, F.vals, 31) (by simp)))) ?_) | ((with_reducible refine q_gate (some 36) rfl ?_); refine q_call (some 36) rfl (by kernel_rfl) Try.func64 (by kernel_rfl) rfl #[.agg (vrow .u64 (setTo (fun j => n.inside (j : Int)) 100)).toArray, .agg (vrow .u64 (setTo (fun j => F.has (j : Int) && (F.kind j == 3)) 100)).toArray] rfl (by simp only [List.map_toArray, List.map_cons, List.map_nil]; kernel_rfl) (.agg (vrow .u64 (setTo (fun j => hasN (setTo (fun j => n.inside (j : Int)) 100) j && hasN (setTo (fun j => F.has (j : Int) && (F.kind j == 3)) 100) j) 100)).toArray) (fun w1 h1 => h1.calls (bothOf_any (setTo_ok _) (setTo_ok _) w1)) ?_) | ((with_reducible refine q_gate (some 38) rfl ?_); refine q_eql_row (some 38) rfl (by kernel_rfl) 47 47 (.tmp 36) (.tmp 37) rfl 45 .u64 2 Try.underlying47 Try.underlying45 (size_of_info (by kernel_rfl)) (by kernel_rfl) (setTo (fun j => hasN (setTo (fun j => n.inside (j : Int)) 100) j && hasN (setTo (fun j => F.has (j : Int) && (F.kind j == 3)) 100) j) 100) [0, 0] (setTo_len _ _) rfl rfl rfl ?_; rw [BE.out]) | ((with_reducible refine q_auto (fun K hK => ?_)); go_simp; refine hK _ ?_; clear hK K))
          refine wpQuiet_nil ?_
          intro w3 hc3
          have HC3 := Lib.hid hc3
          clear hc3
          go_wp2
          go_ret
          exact ⟨ret_bool HZ.out.symm, HC3.out.below⟩
        · have BE := Lib.hid b4
          have HZ : Hid (netB F n = true) := Lib.hid (by rw [← HS.out]; unfold netI; rw [b4, B1.out, decide_eq_true b2, decide_eq_true b3]; rfl)
          clear b4
          repeat (first | ((with_reducible refine q_gate (some 5) rfl ?_); refine q_load (some 5) rfl (by kernel_rfl) 40 (.tmp 3) rfl (w.heap.size) (0) (by kernel_rfl) (n.vals) _ (fun w1 h1 => h1.blk (w.heap.size, n.vals, 40) (by simp)) (rfl) Try.underlying40 rfl (by kernel_rfl) ?_) | ((with_reducible refine q_gate (some 6) rfl ?_); refine q_call (some 6) rfl (by kernel_rfl) Try.func63 (by kernel_rfl) rfl #[.agg n.vals.toArray] rfl (by simp only [List.map_toArray, List.map_cons, List.map_nil]; kernel_rfl) (.bool n.plain) (fun w1 h1 => h1.calls (nPlain_any n HN.out w1)) ?_; rw [B1.out]) | ((with_reducible refine q_gate (some 9) rfl ?_); refine q_cell (some 9) rfl (by kernel_rfl) 22 (.tmp 8) rfl (w.heap.size) (0) (by kernel_rfl) (fun w1 h1 => h1.blk (w.heap.size, n.vals, 40) (by simp)) (z := n.x) (rfl) Try.underlying22 ?_) | ((with_reducible refine q_gate (some 11) rfl ?_); refine q_cell (some 11) rfl (by kernel_rfl) 22 (.tmp 10) rfl (w.heap.size) (2) (by kernel_rfl) (fun w1 h1 => h1.blk (w.heap.size, n.vals, 40) (by simp)) (z := n.wide) (rfl) Try.underlying22 ?_) | ((with_reducible refine q_gate (some 16) rfl ?_); refine q_cell (some 16) rfl (by kernel_rfl) 22 (.tmp 15) rfl (g) (0) (by kernel_rfl) (fun w1 h1 => h1.blk (g, F.vals, 31) (by simp)) (z := F.wide) (rfl) Try.underlying22 ?_) | ((with_reducible refine q_gate (some 21) rfl ?_); refine q_cell (some 21) rfl (by kernel_rfl) 22 (.tmp 20) rfl (w.heap.size) (1) (by kernel_rfl) (fun w1 h1 => h1.blk (w.heap.size, n.vals, 40) (by simp)) (z := n.y) (rfl) Try.underlying22 ?_) | ((with_reducible refine q_gate (some 23) rfl ?_); refine q_cell (some 23) rfl (by kernel_rfl) 22 (.tmp 22) rfl (w.heap.size) (3) (by kernel_rfl) (fun w1 h1 => h1.blk (w.heap.size, n.vals, 40) (by simp)) (z := n.high) (rfl) Try.underlying22 ?_) | ((with_reducible refine q_gate (some 28) rfl ?_); refine q_cell (some 28) rfl (by kernel_rfl) 22 (.tmp 27) rfl (g) (1) (by kernel_rfl) (fun w1 h1 => h1.blk (g, F.vals, 31) (by simp)) (z := F.high) (rfl) Try.underlying22 ?_) | ((with_reducible refine q_gate (some 32) rfl ?_); refine q_load (some 32) rfl (by kernel_rfl) 40 (.tmp 3) rfl (w.heap.size) (0) (by kernel_rfl) (n.vals) _ (fun w1 h1 => h1.blk (w.heap.size, n.vals, 40) (by simp)) (rfl) Try.underlying40 rfl (by kernel_rfl) ?_) | ((with_reducible refine q_gate (some 33) rfl ?_); refine q_call (some 33) rfl (by kernel_rfl) Try.func41 (by kernel_rfl) rfl #[.agg n.vals.toArray] rfl (by simp only [List.map_toArray, List.map_cons, List.map_nil]; kernel_rfl) (.agg (vrow .u64 (setTo (fun j => n.inside (j : Int)) 100)).toArray) (fun w1 h1 => h1.calls (nCells_any n HFT.out w1)) ?_) | ((with_reducible refine q_gate (some 35) rfl ?_); refine q_call (some 35) rfl (by kernel_rfl) Try.func49 (by kernel_rfl) rfl #[.pointer (some ⟨g, 0, none⟩), .int .i64 3] rfl (by simp only [List.map_toArray, List.map_cons, List.map_nil]; kernel_rfl) (.agg (vrow .u64 (setTo (fun j => F.has (j : Int) && (F.kind j == 3)) 100)).toArray) (fun w1 h1 => h1.calls (ofKind_any F HO.out 3 g w1 (h1.blk (g, F.vals, 31) (by simp)))) ?_) | ((with_reducible refine q_gate (some 36) rfl ?_); refine q_call (some 36) rfl (by kernel_rfl) Try.func64 (by kernel_rfl) rfl #[.agg (vrow .u64 (setTo (fun j => n.inside (j : Int)) 100)).toArray, .agg (vrow .u64 (setTo (fun j => F.has (j : Int) && (F.kind j == 3)) 100)).toArray] rfl (by simp only [List.map_toArray, List.map_cons, List.map_nil]; kernel_rfl) (.agg (vrow .u64 (setTo (fun j => hasN (setTo (fun j => n.inside (j : Int)) 100) j && hasN (setTo (fun j => F.has (j : Int) && (F.kind j == 3)) 100) j) 100)).toArray) (fun w1 h1 => h1.calls (bothOf_any (setTo_ok _) (setTo_ok _) w1)) ?_) | ((with_reducible refine q_gate (some 38) rfl ?_); refine q_eql_row (some 38) rfl (by kernel_rfl) 47 47 (.tmp 36) (.tmp 37) rfl 45 .u64 2 Try.underlying47 Try.underlying45 (size_of_info (by kernel_rfl)) (by kernel_rfl) (setTo (fun j => hasN (setTo (fun j => n.inside (j : Int)) 100) j && hasN (setTo (fun j => F.has (j : Int) && (F.kind j == 3)) 100) j) 100) [0, 0] (setTo_len _ _) rfl rfl rfl ?_; rw [BE.out]) | ((with_reducible refine q_auto (fun K hK => ?_)); go_simp; refine hK _ ?_; clear hK K))
          refine wpQuiet_nil ?_
          intro w3 hc3
          have HC3 := Lib.hid hc3
          clear hc3
          go_wp2
          go_ret
          exact ⟨ret_bool HZ.out.symm, HC3.out.below⟩
      · have HZ : Hid (netB F n = false) := Lib.hid (by rw [← HS.out]; unfold netI; rw [decide_eq_false b3, Bool.false_and, Bool.and_false, Bool.and_false])
        repeat (first | ((with_reducible refine q_gate (some 5) rfl ?_); refine q_load (some 5) rfl (by kernel_rfl) 40 (.tmp 3) rfl (w.heap.size) (0) (by kernel_rfl) (n.vals) _ (fun w1 h1 => h1.blk (w.heap.size, n.vals, 40) (by simp)) (rfl) Try.underlying40 rfl (by kernel_rfl) ?_) | ((with_reducible refine q_gate (some 6) rfl ?_); refine q_call (some 6) rfl (by kernel_rfl) Try.func63 (by kernel_rfl) rfl #[.agg n.vals.toArray] rfl (by simp only [List.map_toArray, List.map_cons, List.map_nil]; kernel_rfl) (.bool n.plain) (fun w1 h1 => h1.calls (nPlain_any n HN.out w1)) ?_; rw [B1.out]) | ((with_reducible refine q_gate (some 9) rfl ?_); refine q_cell (some 9) rfl (by kernel_rfl) 22 (.tmp 8) rfl (w.heap.size) (0) (by kernel_rfl) (fun w1 h1 => h1.blk (w.heap.size, n.vals, 40) (by simp)) (z := n.x) (rfl) Try.underlying22 ?_) | ((with_reducible refine q_gate (some 11) rfl ?_); refine q_cell (some 11) rfl (by kernel_rfl) 22 (.tmp 10) rfl (w.heap.size) (2) (by kernel_rfl) (fun w1 h1 => h1.blk (w.heap.size, n.vals, 40) (by simp)) (z := n.wide) (rfl) Try.underlying22 ?_) | ((with_reducible refine q_gate (some 16) rfl ?_); refine q_cell (some 16) rfl (by kernel_rfl) 22 (.tmp 15) rfl (g) (0) (by kernel_rfl) (fun w1 h1 => h1.blk (g, F.vals, 31) (by simp)) (z := F.wide) (rfl) Try.underlying22 ?_) | ((with_reducible refine q_gate (some 21) rfl ?_); refine q_cell (some 21) rfl (by kernel_rfl) 22 (.tmp 20) rfl (w.heap.size) (1) (by kernel_rfl) (fun w1 h1 => h1.blk (w.heap.size, n.vals, 40) (by simp)) (z := n.y) (rfl) Try.underlying22 ?_) | ((with_reducible refine q_gate (some 23) rfl ?_); refine q_cell (some 23) rfl (by kernel_rfl) 22 (.tmp 22) rfl (w.heap.size) (3) (by kernel_rfl) (fun w1 h1 => h1.blk (w.heap.size, n.vals, 40) (by simp)) (z := n.high) (rfl) Try.underlying22 ?_) | ((with_reducible refine q_gate (some 28) rfl ?_); refine q_cell (some 28) rfl (by kernel_rfl) 22 (.tmp 27) rfl (g) (1) (by kernel_rfl) (fun w1 h1 => h1.blk (g, F.vals, 31) (by simp)) (z := F.high) (rfl) Try.underlying22 ?_) | ((with_reducible refine q_auto (fun K hK => ?_)); go_simp; refine hK _ ?_; clear hK K))
        refine wpQuiet_nil ?_
        intro w3 hc3
        have HC3 := Lib.hid hc3
        clear hc3
        go_wp2
        go_ret
        exact ⟨ret_bool HZ.out.symm, HC3.out.below⟩
    · have HZ : Hid (netB F n = false) := Lib.hid (by rw [← HS.out]; unfold netI; rw [decide_eq_false b2, Bool.false_and, Bool.and_false])
      repeat (first | ((with_reducible refine q_gate (some 5) rfl ?_); refine q_load (some 5) rfl (by kernel_rfl) 40 (.tmp 3) rfl (w.heap.size) (0) (by kernel_rfl) (n.vals) _ (fun w1 h1 => h1.blk (w.heap.size, n.vals, 40) (by simp)) (rfl) Try.underlying40 rfl (by kernel_rfl) ?_) | ((with_reducible refine q_gate (some 6) rfl ?_); refine q_call (some 6) rfl (by kernel_rfl) Try.func63 (by kernel_rfl) rfl #[.agg n.vals.toArray] rfl (by simp only [List.map_toArray, List.map_cons, List.map_nil]; kernel_rfl) (.bool n.plain) (fun w1 h1 => h1.calls (nPlain_any n HN.out w1)) ?_; rw [B1.out]) | ((with_reducible refine q_gate (some 9) rfl ?_); refine q_cell (some 9) rfl (by kernel_rfl) 22 (.tmp 8) rfl (w.heap.size) (0) (by kernel_rfl) (fun w1 h1 => h1.blk (w.heap.size, n.vals, 40) (by simp)) (z := n.x) (rfl) Try.underlying22 ?_) | ((with_reducible refine q_gate (some 11) rfl ?_); refine q_cell (some 11) rfl (by kernel_rfl) 22 (.tmp 10) rfl (w.heap.size) (2) (by kernel_rfl) (fun w1 h1 => h1.blk (w.heap.size, n.vals, 40) (by simp)) (z := n.wide) (rfl) Try.underlying22 ?_) | ((with_reducible refine q_gate (some 16) rfl ?_); refine q_cell (some 16) rfl (by kernel_rfl) 22 (.tmp 15) rfl (g) (0) (by kernel_rfl) (fun w1 h1 => h1.blk (g, F.vals, 31) (by simp)) (z := F.wide) (rfl) Try.underlying22 ?_) | ((with_reducible refine q_auto (fun K hK => ?_)); go_simp; refine hK _ ?_; clear hK K))
      refine wpQuiet_nil ?_
      intro w3 hc3
      have HC3 := Lib.hid hc3
      clear hc3
      go_wp2
      go_ret
      exact ⟨ret_bool HZ.out.symm, HC3.out.below⟩
end Go.Proofs.Ytndhmcjcnmiobaa
