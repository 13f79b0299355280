/- The minutes in which a cell is seen, and its gap, by the program and by the reference: plain functions, the same. No condition but bounds of the numbers. -/
import Derived.Test.YtmhkechkkpppaaaV2
import Derived.Test.YtmhkechkkpppaaaGap
namespace Go.Proofs.Ytmhkechkkpppaaa
open Go.RowKit Go.Proofs.YtmhkechkkpppaaaW.PrintWords Go.Proofs.YtmhkechkkpppaaaW.PrintLast Go.Proofs.YtmhkechkkpppaaaW.PrintMore Go.Proofs.Ytmhkechkkpppaaa.PAll
set_option linter.unusedSimpArgs false
set_option linter.unusedVariables false

/-- Where a watcher is. -/
def atN (n wt k i : Nat) : Nat := (k + i * n / wt) % n
def sAt (b : List Int) (s c : Int) (wt k i : Nat) : Bool := decide (sq (rd b (atN b.length wt k i : Nat)) c ≤ s)
/-- Whether a cell is seen in minute k. -/
def seenB (b : List Int) (s c : Int) (wt k : Nat) : Bool := (List.range wt).any (sAt b s c wt k)
/-- What is known of a beat and of the numbers. -/
structure BtIn (b : List Int) (c : Int) (wt : Nat) : Prop where
  l0 : 1 ≤ b.length
  l1 : b.length ≤ 40
  b : ∀ i : Nat, i < b.length → 0 ≤ rd b (i : Int) ∧ rd b (i : Int) ≤ 99
  c0 : 0 ≤ c
  c1 : c ≤ 99
  w0 : 1 ≤ wt
  w1 : wt ≤ 8
section
variable {b : List Int} {s c : Int} {wt : Nat}
theorem atN_lt (h : BtIn b c wt) (k i : Nat) : atN b.length wt k i < b.length := Nat.mod_lt _ (by have := h.l0; omega)
theorem at_eq (h : BtIn b c wt) {k i : Nat} (hk : k < b.length) (hi : i < wt) :
    Int.tmod (wrap64 ((k : Int) + (wrap64 (Int.tdiv (wrap64 ((i : Int) * (b.length : Int))) (wt : Int))))) (b.length : Int) = ((atN b.length wt k i : Nat) : Int) := by
  have hm : i * b.length ≤ 8 * 40 := Nat.mul_le_mul (by have := h.w1; omega) h.l1
  have hd : i * b.length / wt ≤ i * b.length := Nat.div_le_self _ _
  have h1 := h.l1
  have e0 : (i : Int) * (b.length : Int) = ((i * b.length : Nat) : Int) := by simp
  have e1 : wrap64 ((i * b.length : Nat) : Int) = ((i * b.length : Nat) : Int) := by unfold wrap64; omega
  have e2 : Int.tdiv ((i * b.length : Nat) : Int) (wt : Int) = ((i * b.length / wt : Nat) : Int) := rfl
  rw [e0, e1, e2]
  unfold atN
  generalize i * b.length / wt = q at *
  have e3 : wrap64 ((q : Nat) : Int) = ((q : Nat) : Int) := by unfold wrap64; omega
  have e4 : wrap64 ((k : Int) + ((q : Nat) : Int)) = ((k + q : Nat) : Int) := by unfold wrap64; omega
  rw [e3, e4]
  rfl
theorem sq_f (h : BtIn b c wt) (k i : Nat) : impl_square.f (wrap64 (rd b ((atN b.length wt k i : Nat) : Int))) c = some (sq (rd b ((atN b.length wt k i : Nat) : Int)) c) := by
  obtain ⟨h0, h1⟩ := h.b _ (atN_lt h k i)
  have e : wrap64 (rd b ((atN b.length wt k i : Nat) : Int)) = rd b ((atN b.length wt k i : Nat) : Int) := by unfold wrap64; omega
  rw [e]
  unfold impl_square.f
  rw [sq_raw h0 h1 h.c0 h.c1]
theorem ssq_f (h : BtIn b c wt) (k i : Nat) : spec_l01Square.f (wrap64 (rd b ((atN b.length wt k i : Nat) : Int))) c = some (sq (rd b ((atN b.length wt k i : Nat) : Int)) c) := by
  obtain ⟨h0, h1⟩ := h.b _ (atN_lt h k i)
  have e : wrap64 (rd b ((atN b.length wt k i : Nat) : Int)) = rd b ((atN b.length wt k i : Nat) : Int) := by unfold wrap64; omega
  rw [e]
  unfold spec_l01Square.f
  rw [sq_raw h0 h1 h.c0 h.c1]
theorem seen_yes {k i : Nat} (hi : i < wt) (h : sAt b s c wt k i = true) : seenB b s c wt k = true := List.any_eq_true.2 ⟨i, List.mem_range.2 hi, h⟩
theorem seen_no {k : Nat} (h : ∀ i, i < wt → sAt b s c wt k i = false) : seenB b s c wt k = false := by
  rw [Bool.eq_false_iff]
  intro e
  obtain ⟨i, hi, h1⟩ := List.any_eq_true.1 e
  rw [h i (List.mem_range.1 hi)] at h1
  cases h1

/-! ### The minutes, by the program -/
theorem min_l1 (h : BtIn b c wt) {k : Nat} (hk : k < b.length) (R : Option (List Int)) (M : Nat)
    (hn : ∀ K, M ≤ K → impl_Beat_minutes.l0 K b s c wt (Gap.lst (seenB b s c wt) (k + 1)) b.length b.length ((k + 1 : Nat) : Int) = R) :
    ∀ e i, i + e = wt → (∀ j, j < i → sAt b s c wt k j = false) → ∀ K, M + 1 + e ≤ K → impl_Beat_minutes.l1 K b s c wt (Gap.lst (seenB b s c wt) k) b.length k b.length k wt i = R := by
  have h1 := h.l1
  have hw := h.w1
  have hll := Gap.lst_len (seenB b s c wt) k
  intro e
  induction e with
  | zero =>
    intro i hi hf K hK
    obtain ⟨K, rfl⟩ : ∃ K', K = K' + 1 := ⟨K - 1, by omega⟩
    have hs : seenB b s c wt k = false := seen_no fun j hj => hf j (by omega)
    have e1 : wrap64 ((k : Int) + 1) = ((k + 1 : Nat) : Int) := by unfold wrap64; omega
    simp only [impl_Beat_minutes.l1]
    rw [if_neg (by omega), e1, ← Gap.lst_no hs]
    exact hn K (by omega)
  | succ e ih =>
    intro i hi hf K hK
    obtain ⟨K, rfl⟩ : ∃ K', K = K' + 1 := ⟨K - 1, by omega⟩
    have hiw : i < wt := by omega
    have f1 : (i : Int) < (wt : Int) := by omega
    have f2 : ¬ ((wt : Int) = 0) := by omega
    have f3 : ¬ ((b.length : Int) = 0) := by omega
    have f4 : (0 : Int) ≤ ((atN b.length wt k i : Nat) : Int) := Int.natCast_nonneg _
    have f5 : ((atN b.length wt k i : Nat) : Int) < (b.length : Int) := Int.ofNat_lt.2 (atN_lt h k i)
    have f6 : (Gap.lst (seenB b s c wt) k).length < 17592186044416 := by omega
    have e2 : wrap64 ((k : Int) + 1) = ((k + 1 : Nat) : Int) := by unfold wrap64; omega
    have e3 : wrap64 ((i : Int) + 1) = ((i + 1 : Nat) : Int) := by unfold wrap64; omega
    simp only [impl_Beat_minutes.l1]
    rw [if_pos f1, if_neg f2, if_neg f3, at_eq h hk hiw, if_pos f4, if_pos f5, sq_f h k i, Option.bind_some]
    cases hs : sAt b s c wt k i
    · rw [if_neg (by unfold sAt at hs; simpa using hs), e3]
      exact ih (i + 1) (by omega) (fun j hj => by
        rcases Nat.lt_or_ge j i with h' | h'
        · exact hf j h'
        · rw [Nat.le_antisymm (Nat.le_of_lt_succ hj) h']; exact hs) K (by omega)
    · rw [if_pos (by unfold sAt at hs; simpa using hs), if_pos f6, e2, ← Gap.lst_yes (seen_yes hiw hs)]
      exact hn K (by omega)
theorem min_l0 (h : BtIn b c wt) : ∀ d k, k + d = b.length → ∀ K, 1 + d * (wt + 2) ≤ K → impl_Beat_minutes.l0 K b s c wt (Gap.lst (seenB b s c wt) k) b.length b.length k = some (Gap.lst (seenB b s c wt) b.length) := by
  intro d
  induction d with
  | zero =>
    intro k hk K hK
    obtain ⟨K, rfl⟩ : ∃ K', K = K' + 1 := ⟨K - 1, by omega⟩
    obtain rfl : k = b.length := by omega
    simp only [impl_Beat_minutes.l0]
    rw [if_neg (by omega)]
  | succ d ih =>
    intro k hk K hK
    have hm : (d + 1) * (wt + 2) = d * (wt + 2) + (wt + 2) := Nat.succ_mul _ _
    rw [hm] at hK
    obtain ⟨K, rfl⟩ : ∃ K', K = K' + 1 := ⟨K - 1, by omega⟩
    simp only [impl_Beat_minutes.l0]
    rw [if_pos (by omega)]
    exact min_l1 h (by omega) _ (1 + d * (wt + 2)) (fun K hK => ih (k + 1) (by omega) K hK) wt 0 (by omega) (fun j hj => by omega) K (by omega)
theorem min_f (h : BtIn b c wt) (K : Nat) (hK : 1 + b.length * (wt + 2) ≤ K) : impl_Beat_minutes.f K b s c wt = some (Gap.lst (seenB b s c wt) b.length) := by
  unfold impl_Beat_minutes.f
  exact min_l0 h b.length 0 (by omega) K hK

/-! ### The same by the reference -/
def seenL (b : List Int) (s c : Int) (wt k : Nat) (v : Bool) : List Bool := (List.range b.length).map fun j => if j < k then seenB b s c wt j else if j = k then v else false
theorem seenL_len (k : Nat) (v : Bool) : (seenL b s c wt k v).length = b.length := by simp [seenL]
theorem seenL_set {k : Nat} (hk : k < b.length) (v : Bool) : (seenL b s c wt k v).set k true = seenL b s c wt k true := by
  refine List.ext_getElem (by simp [seenL]) fun i h1 h2 => ?_
  rw [List.getElem_set]
  simp only [seenL, List.getElem_map, List.getElem_range]
  by_cases e : k = i
  · subst e; simp
  · have : ¬ i = k := fun h => e h.symm
    simp [e, this]
theorem seenL_next (k : Nat) : seenL b s c wt k (seenB b s c wt k) = seenL b s c wt (k + 1) false := by
  refine List.map_congr_left fun j hj => ?_
  by_cases h1 : j < k
  · rw [if_pos h1, if_pos (by omega)]
  · by_cases h2 : j = k
    · subst h2; simp
    · rw [if_neg h1, if_neg h2, if_neg (by omega)]; simp
theorem seen_l1 (h : BtIn b c wt) {k : Nat} (hk : k < b.length) (R : Option (List Bool)) (M : Nat)
    (hn : ∀ K, M ≤ K → spec_l05Seen.l0 K b s c wt b.length (seenL b s c wt (k + 1) false) ((k + 1 : Nat) : Int) = R) :
    ∀ e i, i + e = wt → ∀ v, v = (List.range i).any (sAt b s c wt k) → ∀ K, M + 1 + e ≤ K → spec_l05Seen.l1 K b s c wt b.length (seenL b s c wt k v) k i = R := by
  have h1 := h.l1
  have hw := h.w1
  intro e
  induction e with
  | zero =>
    intro i hi v hv K hK
    obtain ⟨K, rfl⟩ : ∃ K', K = K' + 1 := ⟨K - 1, by omega⟩
    obtain rfl : i = wt := by omega
    have e1 : wrap64 ((k : Int) + 1) = ((k + 1 : Nat) : Int) := by unfold wrap64; omega
    simp only [spec_l05Seen.l1]
    have hv2 : v = seenB b s c i k := hv
    rw [if_neg (by omega), e1, hv2, seenL_next]
    exact hn K (by omega)
  | succ e ih =>
    intro i hi v hv K hK
    obtain ⟨K, rfl⟩ : ∃ K', K = K' + 1 := ⟨K - 1, by omega⟩
    have hiw : i < wt := by omega
    have f1 : (i : Int) < (wt : Int) := by omega
    have f2 : ¬ ((wt : Int) = 0) := by omega
    have f3 : ¬ ((b.length : Int) = 0) := by omega
    have f4 : (0 : Int) ≤ ((atN b.length wt k i : Nat) : Int) := Int.natCast_nonneg _
    have f5 : ((atN b.length wt k i : Nat) : Int) < (b.length : Int) := Int.ofNat_lt.2 (atN_lt h k i)
    have f6 : (0 : Int) ≤ (k : Int) := Int.natCast_nonneg _
    have f7 : (k : Int) < (b.length : Int) := Int.ofNat_lt.2 hk
    have e3 : wrap64 ((i : Int) + 1) = ((i + 1 : Nat) : Int) := by unfold wrap64; omega
    have hvn : (List.range (i + 1)).any (sAt b s c wt k) = (v || sAt b s c wt k i) := by rw [List.range_succ, List.any_append, ← hv]; simp
    simp only [spec_l05Seen.l1]
    rw [if_pos f1, if_neg f2, if_neg f3, at_eq h hk hiw, if_pos f4, if_pos f5, ssq_f h k i, Option.bind_some]
    cases hs : sAt b s c wt k i
    · rw [if_neg (by unfold sAt at hs; simpa using hs), e3]
      exact ih (i + 1) (by omega) v (by rw [hvn, hs]; simp) K (by omega)
    · rw [if_pos (by unfold sAt at hs; simpa using hs), if_pos f6, if_pos (by rw [seenL_len]; exact f7), Int.toNat_natCast, seenL_set hk, e3]
      exact ih (i + 1) (by omega) true (by rw [hvn, hs]; simp) K (by omega)
theorem seen_l0 (h : BtIn b c wt) : ∀ d k, k + d = b.length → ∀ K, 1 + d * (wt + 2) ≤ K → spec_l05Seen.l0 K b s c wt b.length (seenL b s c wt k false) k = some (seenL b s c wt b.length false) := by
  intro d
  induction d with
  | zero =>
    intro k hk K hK
    obtain ⟨K, rfl⟩ : ∃ K', K = K' + 1 := ⟨K - 1, by omega⟩
    obtain rfl : k = b.length := by omega
    simp only [spec_l05Seen.l0]
    rw [if_neg (by omega)]
  | succ d ih =>
    intro k hk K hK
    have hm : (d + 1) * (wt + 2) = d * (wt + 2) + (wt + 2) := Nat.succ_mul _ _
    rw [hm] at hK
    obtain ⟨K, rfl⟩ : ∃ K', K = K' + 1 := ⟨K - 1, by omega⟩
    simp only [spec_l05Seen.l0]
    rw [if_pos (by omega)]
    exact seen_l1 h (by omega) _ (1 + d * (wt + 2)) (fun K hK => ih (k + 1) (by omega) K hK) wt 0 (by omega) false rfl K (by omega)
theorem seen_f (h : BtIn b c wt) (K : Nat) (hK : 1 + b.length * (wt + 2) ≤ K) : spec_l05Seen.f K b s c wt = some (seenL b s c wt b.length false) := by
  have h1 := h.l1
  unfold spec_l05Seen.f
  rw [if_pos (by omega), if_pos (by omega), Int.toNat_natCast]
  have e : List.replicate b.length false = seenL b s c wt 0 false := by
    unfold seenL
    refine List.ext_getElem (by simp) fun i h1 h2 => ?_
    simp
  rw [e]
  exact seen_l0 h b.length 0 (by omega) K hK
end
end Go.Proofs.Ytmhkechkkpppaaa
