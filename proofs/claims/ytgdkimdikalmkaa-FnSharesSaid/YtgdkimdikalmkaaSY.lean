/- Sorting by merging in place, walked: ranges exchanged, ranges turned about. No condition but those that each theorem names. -/
import Derived.Test.YtgdkimdikalmkaaPS
import Derived.Test.YtgdkimdikalmkaaK0
namespace Go.Proofs.Ytgdkimdikalmkaa
open Go.RowKit Go.Proofs.YtgdkimdikalmkaaW.PrintWords Go.Proofs.YtgdkimdikalmkaaW.PrintLast Go.Proofs.YtgdkimdikalmkaaW.PrintMore
set_option linter.unusedSimpArgs false
set_option linter.unusedVariables false

def rowN (D : Nat → Nat) (n : Nat) : List Value := (List.range n).map fun j => .int .i64 (D j : Int)
theorem rowN_len (D : Nat → Nat) (n : Nat) : (rowN D n).length = n := by simp [rowN]
theorem rowN_get (D : Nat → Nat) {n j : Nat} (h : j < n) : (rowN D n)[j]? = some (.int .i64 (D j : Int)) := by simp [rowN, h]
theorem rowN_set (D : Nat → Nat) {n j : Nat} (h : j < n) (v : Nat) : (rowN D n).set j (.int .i64 (v : Int)) = rowN (fun i => if i = j then v else D i) n := by
  refine List.ext_getElem? fun i => ?_
  rw [List.getElem?_set, rowN_len]
  by_cases e : j = i
  · subst e
    rw [if_pos rfl, if_pos h, rowN_get _ h]
    simp
  · rw [if_neg e]
    rcases Nat.lt_or_ge i n with hi | hi
    · rw [rowN_get _ hi, rowN_get _ hi]
      have : i ≠ j := fun h => e h.symm
      simp [this]
    · rw [List.getElem?_eq_none (by rw [rowN_len]; exact hi), List.getElem?_eq_none (by rw [rowN_len]; exact hi)]
theorem Kept.trans {g : Nat} {w w' w'' : World} (h : Kept g w w') (h2 : Kept g w' w'') : Kept g w w'' :=
  ⟨h2.os.trans h.os, h2.tape.trans h.tape, h2.output.trans h.output, Nat.le_trans h.size h2.size, fun k hl hk => (h2.block k (Nat.lt_of_lt_of_le hl h.size) hk).trans (h.block k hl hk)⟩
/-- A row of numbers in block o. -/
def Ord (w : World) (o n : Nat) (rest : List Value) (D : Nat → Nat) : Prop := Blk w o (rowN D n ++ rest) 3
section
variable {w w' : World} {o n i j : Nat} {rest : List Value} {D : Nat → Nat}
theorem Ord.blk (h : Ord w o n rest D) : Blk w o (rowN D n ++ rest) 3 := h
theorem Ord.cell (h : Ord w o n rest D) (hi : i < n) : w.cell? ⟨o, i, none⟩ = some (.int .i64 (D i : Int)) := h.blk.cell (by rw [List.getElem?_append_left (by rw [rowN_len]; exact hi)]; exact rowN_get D hi)
theorem Ord.free (h : Ord w o n rest D) (i : Nat) : w.frozen? ⟨o, i, none⟩ = false := h.blk.free i
theorem Ord.below (h : Ord w o n rest D) (hb : Below w.heap.size w w') : Ord w' o n rest D := h.blk.below hb h.blk.lt
theorem Ord.drewN (h : Ord w o n rest D) (m : Nat) : Ord (w.drewN m) o n rest D := h
theorem Ord.set (h : Ord w o n rest D) (hi : i < n) (v : Nat) : Ord (w.setCell ⟨o, i, none⟩ (.int .i64 (v : Int))) o n rest (fun k => if k = i then v else D k) := by
  have h1 := h.blk.set i (.int .i64 (v : Int))
  rw [List.set_append_left _ _ (by rw [rowN_len]; exact hi), rowN_set D hi] at h1
  exact h1
theorem Ord.swap (h : Ord w o n rest D) (hi : i < n) (hj : j < n) : Ord ((w.setCell ⟨o, i, none⟩ (.int .i64 (D j : Int))).setCell ⟨o, j, none⟩ (.int .i64 (D i : Int))) o n rest (SM.swp D i j) := by
  have h1 := (h.set hi (D j)).set hj (D i)
  have e : (fun k => if k = j then D i else if k = i then D j else D k) = SM.swp D i j := by
    funext k
    unfold SM.swp
    repeat' split
    all_goals first
      | rfl
      | (subst_vars; rfl)
      | (rename_i a b; rw [← a, ← b])
  rw [e] at h1
  exact h1
theorem Ord.lt (h : Ord w o n rest D) : o < w.heap.size := h.blk.lt
end
theorem name_ofS {α : Type} {f : α → Prop} {x : α} (K : α → Prop) (h1 : K x) (h : ∀ x', K x' → f x') : f x := h x h1
set_option maxHeartbeats 2000000 in
theorem swapRange_any {o n a b k cap : Nat} {rest : List Value} (hab : a + k ≤ b) (hbn : b + k ≤ n) (hn : n ≤ 1000) (f : Value) (D : Nat → Nat) (w : World) (hO : Ord w o n rest D) :
    Calls Try.prog 97 #[.slice (some ⟨o, 0, none⟩) n cap, .int .i64 (a : Int), .int .i64 (b : Int), .int .i64 (k : Int), f] w fun e w' => e = .returned (.tuple #[]) ∧ Kept o w w' ∧ Ord w' o n rest (SM.swR D a b k) := by
  have HO := Lib.hid hO
  clear hO
  go_enter Try.func97, Try.ntmps97
  go_wp2
  go_loopw [10] (fun v wr => ∃ i : Nat, i ≤ k ∧ v = .int .i64 (i : Int) ∧ Hid (Kept o w wr) ∧ Hid (Ord wr o n rest (SM.swR D a b i))) (fun v _ => k - (intOf v).toNat)
  case atStart => exact ⟨0, by omega, rfl, Lib.hid (Kept.refl _ _), Lib.hid (by rw [SM.swR_zero]; exact HO.out)⟩
  case round =>
    obtain ⟨i, hi, rfl, HK, HD⟩ := hrel
    by_cases hlt : i < k
    · have HN := Lib.hid (SM.swR_succ D (a := a) (b := b) (k := i) (by omega))
      generalize SM.swR D a b i = E at *
      have hpn : a + i < n := by omega
      have hqn : b + i < n := by omega
      have cp := HD.out.cell hpn
      have cq := HD.out.cell hqn
      have fp := HD.out.free (a + i)
      have fq := HD.out.free (b + i)
      have w1 : IntKind.i64.wrap ((a : Int) + (i : Int)) = (a : Int) + (i : Int) := by rw [IntKind.wrap_i64]; omega
      have w2 : IntKind.i64.wrap ((b : Int) + (i : Int)) = (b : Int) + (i : Int) := by rw [IntKind.wrap_i64]; omega
      have p1 : (0 : Int) ≤ (a : Int) + (i : Int) := by omega
      have p2 : (0 : Int) ≤ (b : Int) + (i : Int) := by omega
      have b1 : (a : Int) + (i : Int) < (n : Int) := by omega
      have b2 : (b : Int) + (i : Int) < (n : Int) := by omega
      have HS := Lib.hid (HD.out.swap hpn hqn)
      have cq2 : (wr.setCell ⟨o, a + i, none⟩ (.int .i64 (E (b + i) : Int))).cell? ⟨o, b + i, none⟩ = some (.int .i64 (E (b + i) : Int)) := by
        have := (HD.out.set hpn (E (b + i))).cell hqn
        rw [this]
        split <;> rfl
      go_wp2
      go_region
      all_goals
        refine name_ofS (fun w' => Kept o w w' ∧ Ord w' o n rest (SM.swp E (a + i) (b + i))) ⟨by first | exact (HK.out.set _ _).set _ _ | exact ((HK.out.set _ _).set _ _).drewN 1, by first | exact HS.out | exact HS.out.drewN 1⟩ ?_
        rintro wz ⟨h1, h2⟩
        have HKz := Lib.hid h1
        have HDz := Lib.hid h2
        clear h1 h2 cp cq fp fq cq2 HS
        go_wp2
        go_roundw
        case rel => exact ⟨i + 1, by omega, by go_num, HKz, by rw [HN.out]; exact HDz⟩
        case measure => simp only [intOf]; omega
    · obtain rfl : i = k := by omega
      go_wp2
      go_end0
      exact ⟨rfl, HK.out, HD.out⟩

set_option maxHeartbeats 2000000 in
theorem rotate_any {o n a m b cap : Nat} {rest : List Value} (ham : a < m) (hmb : m < b) (hbn : b ≤ n) (hn : n ≤ 1000) (f : Value) (D : Nat → Nat) (w : World) (hO : Ord w o n rest D) :
    Calls Try.prog 96 #[.slice (some ⟨o, 0, none⟩) n cap, .int .i64 (a : Int), .int .i64 (m : Int), .int .i64 (b : Int), f] w fun e w' => e = .returned (.tuple #[]) ∧ Kept o w w' ∧ Ord w' o n rest (SM.rot D a m b) := by
  have HO := Lib.hid hO
  clear hO
  have w1 : IntKind.i64.wrap ((m : Int) - (a : Int)) = (m : Int) - (a : Int) := by rw [IntKind.wrap_i64]; omega
  have w2 : IntKind.i64.wrap ((b : Int) - (m : Int)) = (b : Int) - (m : Int) := by rw [IntKind.wrap_i64]; omega
  go_enter Try.func96, Try.ntmps96
  go_wp2
  go_loopw [10, 11] (fun u v wr => ∃ (i j : Nat) (E : Nat → Nat), 1 ≤ i ∧ 1 ≤ j ∧ i ≤ m ∧ m + j ≤ b ∧ u = .int .i64 (i : Int) ∧ v = .int .i64 (j : Int) ∧ Hid (Kept o w wr) ∧ Hid (Ord wr o n rest E) ∧ Hid (SM.rot E (m - i) m (m + j) = SM.rot D a m b)) (fun u v _ => (intOf u).toNat + (intOf v).toNat)
  case atStart =>
    refine ⟨m - a, b - m, D, by omega, by omega, by omega, by omega, by rw [show ((m - a : Nat) : Int) = (m : Int) - (a : Int) by omega], by rw [show ((b - m : Nat) : Int) = (b : Int) - (m : Int) by omega], Lib.hid (Kept.refl _ _), HO, Lib.hid ?_⟩
    rw [show m - (m - a) = a by omega, show m + (b - m) = b by omega]
  case round =>
    obtain ⟨i, j, E, hi1, hj1, him, hjb, rfl, rfl, HK, HD, HR⟩ := hrel
    have w3 : IntKind.i64.wrap ((m : Int) - (i : Int)) = (m : Int) - (i : Int) := by rw [IntKind.wrap_i64]; omega
    have e3 : ((m - i : Nat) : Int) = (m : Int) - (i : Int) := by omega
    by_cases hij : i = j
    · subst hij
      have hc := swapRange_any (cap := cap) (a := m - i) (b := m) (k := i) (by omega) (by omega) hn f E wr HD.out
      rw [e3] at hc
      go_wp2_with (go_at_call 97; refine hc.mono ?_; rintro e wz ⟨rfl, h1, h2⟩; have HKz := Lib.hid (HK.out.trans h1); have HDz := Lib.hid h2; clear h1 h2)
      go_end0
      exact ⟨rfl, HKz.out, by rw [← HR.out, ← SM.rot_same E him]; exact HDz.out⟩
    · by_cases hlt : j < i
      · have hc := swapRange_any (cap := cap) (a := m - i) (b := m) (k := j) (by omega) (by omega) hn f E wr HD.out
        rw [e3] at hc
        have hz1 : ¬ ((i : Int) = (j : Int)) := by omega
        have hz2 : (i : Int) > (j : Int) := by omega
        have w4 : IntKind.i64.wrap ((i : Int) - (j : Int)) = (i : Int) - (j : Int) := by rw [IntKind.wrap_i64]; omega
        go_wp2_with (go_at_call 97; refine hc.mono ?_; rintro e wz ⟨rfl, h1, h2⟩; have HKz := Lib.hid (HK.out.trans h1); have HDz := Lib.hid h2; clear h1 h2)
        go_roundw
        case rel => exact ⟨i - j, j, _, by omega, hj1, by omega, hjb, by rw [show ((i - j : Nat) : Int) = (i : Int) - (j : Int) by omega], rfl, HKz, HDz, Lib.hid (by rw [SM.rot_left E him hlt]; exact HR.out)⟩
        case measure => simp only [intOf]; omega
      · have hc := swapRange_any (cap := cap) (a := m - i) (b := m + j - i) (k := i) (by omega) (by omega) hn f E wr HD.out
        rw [e3, show ((m + j - i : Nat) : Int) = (m : Int) + (j : Int) - (i : Int) by omega] at hc
        have hz1 : ¬ ((i : Int) = (j : Int)) := by omega
        have hz2 : ¬ ((i : Int) > (j : Int)) := by omega
        have w4 : IntKind.i64.wrap ((j : Int) - (i : Int)) = (j : Int) - (i : Int) := by rw [IntKind.wrap_i64]; omega
        have w5 : IntKind.i64.wrap ((m : Int) + (j : Int)) = (m : Int) + (j : Int) := by rw [IntKind.wrap_i64]; omega
        have w6 : IntKind.i64.wrap ((m : Int) + (j : Int) - (i : Int)) = (m : Int) + (j : Int) - (i : Int) := by rw [IntKind.wrap_i64]; omega
        go_wp2_with (go_at_call 97; refine hc.mono ?_; rintro e wz ⟨rfl, h1, h2⟩; have HKz := Lib.hid (HK.out.trans h1); have HDz := Lib.hid h2; clear h1 h2)
        go_roundw
        case rel => exact ⟨i, j - i, _, hi1, by omega, him, by omega, rfl, by rw [show ((j - i : Nat) : Int) = (j : Int) - (i : Int) by omega], HKz, HDz, Lib.hid (by rw [SM.rot_right E him (by omega)]; exact HR.out)⟩
        case measure => simp only [intOf]; omega
end Go.Proofs.Ytgdkimdikalmkaa
