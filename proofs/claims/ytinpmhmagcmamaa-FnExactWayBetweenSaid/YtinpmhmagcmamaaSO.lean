/- A short list of whole numbers that goes upward, sorted: it stays; the first of a list of which a function value holds. No condition but those that each theorem names. -/
import Derived.Test.YtinpmhmagcmamaaWQ
import Derived.Test.YtinpmhmagcmamaaPAllx1
import Derived.Test.YtinpmhmagcmamaaPAllx2
namespace Go.Proofs.Ytinpmhmagcmamaa
open Go.RowKit Go.Proofs.YtinpmhmagcmamaaW.PrintWords Go.Proofs.YtinpmhmagcmamaaW.PrintLast Go.Proofs.YtinpmhmagcmamaaW.PrintMore Go.Proofs.Ytinpmhmagcmamaa.PAll
set_option linter.unusedSimpArgs false
set_option linter.unusedVariables false

theorem less_f (a b : Int) : cmp_Less_int64.f a b = some (decide (a < b)) := by
  unfold cmp_Less_int64.f cmp_isNaN_int64.f
  simp
theorem ins_stay {L : List Int} (hL : L.length ≤ 12) (hup : ∀ i j, i < j → j < L.length → rd L (i : Int) < rd L (j : Int)) : ∀ (d i : Nat), i + d = L.length → 1 ≤ i → slices_insertionSortOrdered_int64.l0 (2 * d + 1) L 0 (L.length : Int) (i : Int) = some L
  | 0, i, h, h1 => by
    show slices_insertionSortOrdered_int64.l0 (0 + 1) L 0 (L.length : Int) (i : Int) = some L
    unfold slices_insertionSortOrdered_int64.l0
    rw [if_neg (by omega)]
  | d + 1, i, h, h1 => by
    have ih := ins_stay hL hup d (i + 1) (by omega) (by omega)
    have hlt := hup (i - 1) i (by omega) (by omega)
    have hw : wrap64 ((i : Int) - 1) = ((i - 1 : Nat) : Int) := by unfold wrap64; omega
    have hw2 : wrap64 ((i : Int) + 1) = ((i + 1 : Nat) : Int) := by unfold wrap64; omega
    show slices_insertionSortOrdered_int64.l0 ((2 * d + 1) + 1 + 1) L 0 (L.length : Int) (i : Int) = some L
    unfold slices_insertionSortOrdered_int64.l0
    rw [if_pos (by omega)]
    unfold slices_insertionSortOrdered_int64.l1
    rw [if_pos (by omega), if_pos (by omega), if_pos (by omega), hw, if_pos (by omega), if_pos (by omega), less_f]
    simp only [Option.bind_some]
    rw [decide_eq_false (by omega), if_neg (by decide), hw2]
    exact ih

set_option maxHeartbeats 4000000 in
set_option maxRecDepth 100000 in
theorem len64_any (n : Nat) (hn : n ≤ 12) (w : World) : Calls Try.prog 58 #[.int .u64 (n : Int)] w fun e w' => (∃ z : Int, e = .returned (.int .i64 z)) ∧ w' = w := by
  have h1 : decide ((n : Int) ≥ 4294967296) = false := decide_eq_false (by omega)
  have h2 : decide ((n : Int) ≥ 65536) = false := decide_eq_false (by omega)
  have h3 : decide ((n : Int) ≥ 256) = false := decide_eq_false (by omega)
  go_enter Try.func58, Try.ntmps58
  go_wp2
  all_goals (go_ret; exact ⟨⟨_, rfl⟩, rfl⟩)
theorem len_any (n : Nat) (hn : n ≤ 12) (w : World) : Calls Try.prog 42 #[.int .u64 (n : Int)] w fun e w' => (∃ z : Int, e = .returned (.int .i64 z)) ∧ w' = w := by
  have h := len64_any n hn w
  go_enter Try.func42, Try.ntmps42
  go_wp2_with (go_at_call 58; refine h.mono ?_; rintro e w' ⟨⟨z, rfl⟩, rfl⟩)
  go_ret
  exact ⟨⟨_, rfl⟩, rfl⟩
set_option maxHeartbeats 4000000 in
theorem pdq_short (k : Nat) (P0 : Nat → Prop) (v : Value) (L R : List Int) (z : Int) (w0 w : World) (hB : Below w0.heap.size w0 w) (ho : Kd.R (Kd.int .i64) 2 w w0.heap.size P0 v L) (hL : L.length ≤ 12) (h : slices_insertionSortOrdered_int64.f k L 0 (L.length : Int) = some R) :
    Calls Try.prog 41 #[v, .int .i64 0, .int .i64 (L.length : Int), .int .i64 z] w fun e w' => e = .returned (.tuple #[]) ∧ Kd.R (Kd.int .i64) 2 w' w0.heap.size (fun k => P0 k ∨ w.heap.size ≤ k) v R ∧ Below w0.heap.size w0 w' ∧ Go.Proofs.YtinpmhmagcmamaaW.PrintWords.Kept w w' (fun k => P0 k) := by
  have HC := Lib.hid (slices_insertionSortOrdered_int64.calls k P0 v L 0 (L.length : Int) R w0 w hB ho h)
  clear hB ho h
  go_enter Try.func41, Try.ntmps41
  go_wp2
  go_loopw [1, 2, 3] (fun a b c wr => a = .int .i64 0 ∧ b = .int .i64 (L.length : Int) ∧ wr = w) (fun _ _ _ _ => 0)
  case atStart => exact ⟨rfl, rfl, rfl⟩
  case round =>
    obtain ⟨rfl, rfl, rfl⟩ := hrel
    have hd : decide ((L.length : Int) ≤ 12) = true := decide_eq_true (by omega)
    go_wp2_with (go_at_call 48; refine HC.out.mono ?_; rintro e w' ⟨rfl, h1, h2, h3⟩; have H1 := Lib.hid h1; have H2 := Lib.hid h2; have H3 := Lib.hid h3; clear h1 h2 h3)
    (try simp only [Exit.inBlock, Exit.then]); refine bodyPost_ret (results_none rfl _ _ _) rfl ?_
    exact ⟨rfl, H1.out, H2.out, H3.out⟩
set_option maxHeartbeats 2000000 in
theorem sort_short (k : Nat) (P0 : Nat → Prop) (A : Option Addr) (c : Nat) (L R : List Int) (w0 w : World) (hB : Below w0.heap.size w0 w) (ho : Kd.R (Kd.int .i64) 2 w w0.heap.size P0 (.slice A L.length c) L) (hL : L.length ≤ 12) (h : slices_insertionSortOrdered_int64.f k L 0 (L.length : Int) = some R) :
    Calls Try.prog 26 #[.slice A L.length c] w fun e w' => e = .returned (.tuple #[]) ∧ Kd.R (Kd.int .i64) 2 w' w0.heap.size (fun k => P0 k ∨ w.heap.size ≤ k) (.slice A L.length c) R ∧ Below w0.heap.size w0 w' ∧ Go.Proofs.YtinpmhmagcmamaaW.PrintWords.Kept w w' (fun k => P0 k) := by
  have HC := fun z => Lib.hid (pdq_short k P0 (.slice A L.length c) L R z w0 w hB ho hL h)
  have HN := Lib.hid (len_any L.length hL w)
  have hu : IntKind.u64.wrap (L.length : Int) = (L.length : Int) := by simp [IntKind.wrap, IntKind.bits, IntKind.signed]; omega
  clear hB ho h
  go_enter Try.func26, Try.ntmps26
  go_wp2_with (first
    | (go_at_call 42; refine HN.out.mono ?_; rintro e w' ⟨⟨z, rfl⟩, rfl⟩)
    | (go_at_call 41; refine (HC _).out.mono ?_; rintro e w' ⟨rfl, h1, h2, h3⟩; have H1 := Lib.hid h1; have H2 := Lib.hid h2; have H3 := Lib.hid h3; clear h1 h2 h3))
  go_end0
  exact ⟨rfl, H1.out, H2.out, H3.out⟩
/-- A list of one's own that goes upward is as it was. -/
theorem sort_up (P0 : Nat → Prop) (A : Option Addr) (c : Nat) (L : List Int) (w0 w : World) (hB : Below w0.heap.size w0 w) (ho : Kd.R (Kd.int .i64) 2 w w0.heap.size P0 (.slice A L.length c) L) (hL : L.length ≤ 12) (hup : ∀ i j, i < j → j < L.length → rd L (i : Int) < rd L (j : Int)) :
    Calls Try.prog 26 #[.slice A L.length c] w fun e w' => e = .returned (.tuple #[]) ∧ Kd.R (Kd.int .i64) 2 w' w0.heap.size (fun k => P0 k ∨ w.heap.size ≤ k) (.slice A L.length c) L ∧ Below w0.heap.size w0 w' ∧ Go.Proofs.YtinpmhmagcmamaaW.PrintWords.Kept w w' (fun k => P0 k) := by
  refine sort_short (if L.length = 0 then 1 else 2 * (L.length - 1) + 1) P0 A c L L w0 w hB ho hL ?_
  unfold slices_insertionSortOrdered_int64.f
  split
  · rename_i h
    unfold slices_insertionSortOrdered_int64.l0
    rw [if_neg (by unfold wrap64; omega)]
  · rw [show wrap64 (0 + 1) = ((1 : Nat) : Int) by unfold wrap64; omega]
    exact ins_stay hL hup (L.length - 1) 1 (by omega) (by omega)
set_option maxHeartbeats 2000000 in
/-- The first of which a function value holds. -/
theorem intFirst_any (xs : List Int) (p : Int → Bool) (A : Option Addr) (c : Nat) (f : FuncId) (caps : Array Value) (w : World) (hA : Kd.C (Kd.int .i64) w A xs.length xs) (n : Nat) (hn : n < xs.length) (hp : p (rd xs (n : Int)) = true) (hno : ∀ j, j < n → p (rd xs (j : Int)) = false)
    (eg : ∀ args w, (callFunc f args).run Try.prog w = .ok (.enter f args) w)
    (hc : ∀ (i : Nat) w1, i < xs.length → Below w.heap.size w w1 → Calls Try.prog f (#[.int .i64 (rd xs (i : Int))] ++ caps) w1 fun e w' => e = .returned (.bool (p (rd xs (i : Int)))) ∧ Below w1.heap.size w1 w') :
    Calls Try.prog 27 #[.slice A xs.length c, .func (.func f) #[] caps] w fun e w' => e = .returned (.int .i64 (n : Int)) ∧ Below w.heap.size w w' := by
  have HA := Lib.hid hA
  have HC := Lib.hid hc
  have HP0 := Lib.hid hp
  have HNO := Lib.hid hno
  have hlen := hA.2.1
  clear hA hc hp hno
  go_enter Try.func27, Try.ntmps27
  go_wp2
  go_loopw [8] (fun v wr => ∃ i : Nat, i ≤ n ∧ v = .int .i64 i ∧ Hid (Below w.heap.size w wr)) (fun v _ => n - (intOf v).toNat)
  case atStart => exact ⟨0, by omega, rfl, Lib.hid (Below.refl _ _)⟩
  case round =>
    obtain ⟨i, hi, rfl, HB⟩ := hrel
    have hlt : i < xs.length := by omega
    obtain ⟨ad, hA, x0⟩ := Kd.at_int (Kd.C_below HA.out HB.out) (i : Int) (by omega) (by omega)
    subst hA
    rw [Int.toNat_natCast] at x0
    have HCi := Lib.hid (HC.out i wr hlt HB.out)
    have e0 : xs.getD i 0 = rd xs (i : Int) := by simp [rd]
    try rw [e0] at x0
    by_cases hin : i = n
    · subst hin
      have HP : Hid (p (rd xs (i : Int)) = true) := HP0
      generalize rd xs (i : Int) = x at *
      go_wp2_with (go_at_fn f; refine HCi.out.mono ?_; rintro e w5 ⟨rfl, hb⟩; rw [HP.out]; have HB5 : Hid (Below w.heap.size w w5) := Lib.hid (HB.out.trans (hb.mono HB.out.size)); clear hb)
      go_ret
      exact ⟨rfl, HB5.out⟩
    · have HP : Hid (p (rd xs (i : Int)) = false) := Lib.hid (HNO.out i (by omega))
      generalize rd xs (i : Int) = x at *
      go_wp2_with (go_at_fn f; refine HCi.out.mono ?_; rintro e w5 ⟨rfl, hb⟩; rw [HP.out]; have HB5 : Hid (Below w.heap.size w w5) := Lib.hid (HB.out.trans (hb.mono HB.out.size)); clear hb)
      go_roundw
      case rel => exact ⟨i + 1, by omega, by go_num, HB5⟩
      case measure => simp only [intOf]; omega
end Go.Proofs.Ytinpmhmagcmamaa
