/- The gap of a cell, by the program and by the reference: plain functions, the same. No condition but bounds of the numbers. -/
import Derived.Test.YtmhkechkkpppaaaGp
namespace Go.Proofs.Ytmhkechkkpppaaa
open Go.RowKit Go.Proofs.YtmhkechkkpppaaaW.PrintWords Go.Proofs.YtmhkechkkpppaaaW.PrintLast Go.Proofs.YtmhkechkkpppaaaW.PrintMore Go.Proofs.Ytmhkechkkpppaaa.PAll
set_option linter.unusedSimpArgs false
set_option linter.unusedVariables false

section
variable {b : List Int} {s c : Int} {wt : Nat}

/-! ### The gap -/
/-- The gap of a cell. -/
def gapB (b : List Int) (s c : Int) (wt : Nat) : Int := Gap.gapTo (seenB b s c wt) b.length b.length
theorem gapB_bd (h : BtIn b c wt) : 0 ≤ gapB b s c wt ∧ gapB b s c wt ≤ 40 := by
  have h1 := Gap.gapTo_bd (seenB b s c wt) b.length b.length (Nat.le_refl _)
  have h2 := h.l1
  unfold gapB
  omega
theorem lst_bd (q : Nat → Bool) (n : Nat) {j : Nat} (h : j < (Gap.lst q n).length) : 0 ≤ rd (Gap.lst q n) (j : Int) ∧ rd (Gap.lst q n) (j : Int) ≤ (n : Int) := by
  obtain ⟨m, m1, m2, m3⟩ := Gap.lst_at q n j h
  obtain ⟨r1, r2⟩ := Gap.lst_rd q m2 n m1
  rw [m3] at r1
  rw [r1]
  omega
theorem w64_small {z : Int} (h0 : -1000 ≤ z) (h1 : z ≤ 1000) : wrap64 z = z := by unfold wrap64; omega
theorem gap_step (K : Nat) (b L : List Int) (J k n : Nat) (X : Int) (hJ : J < L.length) (hl : L.length ≤ 40) (hn : b.length = n) (hn2 : n ≤ 40) (r1 : rd L (J : Int) = (k : Int)) (hk : k < n) (hb : ∀ j : Nat, j < L.length → 0 ≤ rd L (j : Int) ∧ rd L (j : Int) ≤ (n : Int)) :
    impl_Beat_gap.l0 (K + 1) b L X L (L.length : Int) (J : Int) = impl_Beat_gap.l0 K b L (mx X (if J + 1 < L.length then rd L ((J + 1 : Nat) : Int) - (k : Int) else (n : Int) + rd L 0 - (k : Int))) L (L.length : Int) ((J + 1 : Nat) : Int) := by
  have f1 : (J : Int) < (L.length : Int) := Int.ofNat_lt.2 hJ
  have f2 : (0 : Int) ≤ (J : Int) := Int.natCast_nonneg _
  have f3 : (0 : Int) < (L.length : Int) := Int.lt_of_le_of_lt f2 f1
  have e1 : wrap64 ((J : Int) + 1) = ((J + 1 : Nat) : Int) := w64_small (by omega) (by omega)
  have hz : 0 ≤ rd L 0 ∧ rd L 0 ≤ (n : Int) := hb 0 (by omega)
  have e2 : wrap64 ((b.length : Int) + rd L 0) = (n : Int) + rd L 0 := by
    rw [hn]
    exact w64_small (by omega) (by omega)
  have e4 : wrap64 ((n : Int) + rd L 0 - (k : Int)) = (n : Int) + rd L 0 - (k : Int) := w64_small (by omega) (by omega)
  have hs : ∀ x, x = impl_Beat_gap.l0 (K + 1) b L X L (L.length : Int) (J : Int) → x = impl_Beat_gap.l0 K b L (mx X (if J + 1 < L.length then rd L ((J + 1 : Nat) : Int) - (k : Int) else (n : Int) + rd L 0 - (k : Int))) L (L.length : Int) ((J + 1 : Nat) : Int) := by
    intro x hx
    simp only [impl_Beat_gap.l0] at hx
    rw [if_pos f1, if_pos f2, if_pos f1, if_pos f3, e1, r1, e2, e4] at hx
    by_cases hn' : J + 1 < L.length
    · have f4 : ((J + 1 : Nat) : Int) < (L.length : Int) := Int.ofNat_lt.2 hn'
      have f5 : (0 : Int) ≤ ((J + 1 : Nat) : Int) := Int.natCast_nonneg _
      have bj := hb _ hn'
      have e3 : wrap64 (rd L ((J + 1 : Nat) : Int) - (k : Int)) = rd L ((J + 1 : Nat) : Int) - (k : Int) := w64_small (by omega) (by omega)
      rw [if_pos f4, if_pos f5, e3] at hx
      rw [if_pos hn']
      exact hx
    · have f4 : ¬ ((J + 1 : Nat) : Int) < (L.length : Int) := fun x => hn' (Int.ofNat_lt.1 x)
      rw [if_neg f4] at hx
      rw [if_neg hn']
      exact hx
  exact hs _ rfl
theorem gap_l0 (h : BtIn b c wt) (q : Nat → Bool) : ∀ d k, k + d = b.length → ∀ K, 1 + d ≤ K → impl_Beat_gap.l0 K b (Gap.lst q b.length) (Gap.gapTo q b.length k) (Gap.lst q b.length) ((Gap.lst q b.length).length : Int) (((Gap.lst q k).length : Nat) : Int) = some (Gap.gapTo q b.length b.length) := by
  have hl1 := h.l1
  intro d
  induction d with
  | zero =>
    intro k hk K hK
    obtain ⟨K, rfl⟩ : ∃ K', K = K' + 1 := ⟨K - 1, by omega⟩
    obtain rfl : k = b.length := by omega
    simp only [impl_Beat_gap.l0]
    rw [if_neg (Int.lt_irrefl _)]
  | succ d ih =>
    intro k hk K hK
    have hkn : k < b.length := by omega
    cases hs : q k
    · have h1 := ih (k + 1) (by omega) K (by omega)
      rw [Gap.lst_no hs] at h1
      have e : Gap.gapTo q b.length (k + 1) = Gap.gapTo q b.length k := by simp [Gap.gapTo, hs]
      rw [e] at h1
      exact h1
    · obtain ⟨K, rfl⟩ : ∃ K', K = K' + 1 := ⟨K - 1, by omega⟩
      obtain ⟨r1, r2⟩ := Gap.lst_rd q hs b.length hkn
      have h1 := ih (k + 1) (by omega) K (by omega)
      have ey := Gap.lst_yes hs
      have eyl : (Gap.lst q (k + 1)).length = (Gap.lst q k).length + 1 := by rw [ey]; simp
      rw [eyl] at h1
      have eg : Gap.gapTo q b.length (k + 1) = mx (Gap.gapTo q b.length k) (Gap.next q b.length k) := by
        simp only [Gap.gapTo, hs, if_true]
        unfold mx
        rfl
      rw [eg] at h1
      unfold Gap.next at h1
      rw [gap_step K b (Gap.lst q b.length) (Gap.lst q k).length k b.length _ r2 (Nat.le_trans (Gap.lst_len q b.length) hl1) rfl hl1 r1 hkn (fun j hj => lst_bd q b.length hj)]
      exact h1
theorem gap_f (h : BtIn b c wt) (K : Nat) (hK : 1 + b.length * (wt + 2) ≤ K) : impl_Beat_gap.f K b s c wt = some (gapB b s c wt) := by
  unfold impl_Beat_gap.f
  rw [min_f h K hK, Option.bind_some]
  have hm : b.length ≤ b.length * (wt + 2) := Nat.le_mul_of_pos_right _ (by omega)
  exact gap_l0 h (seenB b s c wt) b.length 0 (by omega) K (by omega)

theorem seenL_rd {k : Nat} (hk : k < b.length) : rdOf false (seenL b s c wt b.length false) (k : Int) = seenB b s c wt k := by
  unfold rdOf seenL
  rw [Int.toNat_natCast, List.getD_eq_getElem?_getD, List.getElem?_map, List.getElem?_range hk]
  simp [hk]
theorem sgap_l1 (h : BtIn b c wt) {k D : Nat} (hk : k < b.length) (hD : D ≤ b.length) (hs : seenB b s c wt ((k + D) % b.length) = true) (hno : ∀ d, 1 ≤ d → d < D → seenB b s c wt ((k + d) % b.length) = false) (X : Int) (R : Option Int) (M : Nat)
    (hn : ∀ K, M ≤ K → spec_l05Gap.l0 K (seenL b s c wt b.length false) (mx X D) ((k + 1 : Nat) : Int) = R) :
    ∀ e d, d + e = D → 1 ≤ d → ∀ K, M + 1 + e ≤ K → spec_l05Gap.l1 K (seenL b s c wt b.length false) X k d = R := by
  have hl1 := h.l1
  have hl0 := h.l0
  intro e
  induction e with
  | zero =>
    intro d hd h1 K hK
    obtain ⟨K, rfl⟩ : ∃ K', K = K' + 1 := ⟨K - 1, by omega⟩
    obtain rfl : d = D := by omega
    have f0 : ¬ ((b.length : Int) = 0) := by omega
    have e1 : wrap64 ((k : Int) + (d : Int)) = ((k + d : Nat) : Int) := by unfold wrap64; omega
    have e2 : Int.tmod ((k + d : Nat) : Int) (b.length : Int) = (((k + d) % b.length : Nat) : Int) := rfl
    have hml := Nat.mod_lt (k + d) (show 0 < b.length by omega)
    have f1 : (0 : Int) ≤ (((k + d) % b.length : Nat) : Int) := Int.natCast_nonneg _
    have f2 : (((k + d) % b.length : Nat) : Int) < (b.length : Int) := Int.ofNat_lt.2 hml
    have e3 : wrap64 ((k : Int) + 1) = ((k + 1 : Nat) : Int) := by unfold wrap64; omega
    have em : spec_l00Max.f X (d : Int) = some (mx X d) := by
      unfold spec_l00Max.f mx
      by_cases hx : X > (d : Int)
      · rw [if_pos hx, if_neg (by omega)]
      · rw [if_neg hx]
        by_cases hy : X < (d : Int)
        · rw [if_pos hy]
        · rw [if_neg hy]; congr 1; omega
    simp only [spec_l05Gap.l1]
    rw [seenL_len, if_neg f0, e1, e2, if_pos f1, if_pos f2, seenL_rd hml, if_pos hs, em, Option.bind_some, e3]
    exact hn K (by omega)
  | succ e ih =>
    intro d hd h1 K hK
    obtain ⟨K, rfl⟩ : ∃ K', K = K' + 1 := ⟨K - 1, by omega⟩
    have hf := hno d h1 (by omega)
    have e3 : wrap64 ((d : Int) + 1) = ((d + 1 : Nat) : Int) := w64_small (by omega) (by omega)
    have h2 := ih (d + 1) (by omega) (by omega) K (by omega)
    have f0 : ¬ ((b.length : Int) = 0) := by omega
    have e1 : wrap64 ((k : Int) + (d : Int)) = ((k + d : Nat) : Int) := by unfold wrap64; omega
    have e2 : Int.tmod ((k + d : Nat) : Int) (b.length : Int) = (((k + d) % b.length : Nat) : Int) := rfl
    have hml := Nat.mod_lt (k + d) (show 0 < b.length by omega)
    have f1 : (0 : Int) ≤ (((k + d) % b.length : Nat) : Int) := Int.natCast_nonneg _
    have f2 : (((k + d) % b.length : Nat) : Int) < (b.length : Int) := Int.ofNat_lt.2 hml
    simp only [spec_l05Gap.l1]
    rw [seenL_len, if_neg f0, e1, e2, if_pos f1, if_pos f2, seenL_rd hml, if_neg (by rw [hf]; decide), e3]
    exact h2
theorem sgap_l0 (h : BtIn b c wt) : ∀ d k, k + d = b.length → ∀ K, 1 + d * (b.length + 2) ≤ K → spec_l05Gap.l0 K (seenL b s c wt b.length false) (Gap.gapTo (seenB b s c wt) b.length k) k = some (gapB b s c wt) := by
  have hl1 := h.l1
  intro d
  induction d with
  | zero =>
    intro k hk K hK
    obtain ⟨K, rfl⟩ : ∃ K', K = K' + 1 := ⟨K - 1, by omega⟩
    obtain rfl : k = b.length := by omega
    simp only [spec_l05Gap.l0]
    rw [seenL_len, if_neg (Int.lt_irrefl _)]
    rfl
  | succ d ih =>
    intro k hk K hK
    have hm : (d + 1) * (b.length + 2) = d * (b.length + 2) + (b.length + 2) := Nat.succ_mul _ _
    rw [hm] at hK
    obtain ⟨K, rfl⟩ : ∃ K', K = K' + 1 := ⟨K - 1, by omega⟩
    have hkn : k < b.length := by omega
    have f1 : (k : Int) < (b.length : Int) := Int.ofNat_lt.2 hkn
    have f2 : (0 : Int) ≤ (k : Int) := Int.natCast_nonneg _
    have e3 : wrap64 ((k : Int) + 1) = ((k + 1 : Nat) : Int) := by unfold wrap64; omega
    simp only [spec_l05Gap.l0]
    rw [seenL_len, if_pos f1, if_pos f2, seenL_rd hkn]
    cases hs : seenB b s c wt k
    · have h2 := ih (k + 1) (by omega) K (by omega)
      have e : Gap.gapTo (seenB b s c wt) b.length (k + 1) = Gap.gapTo (seenB b s c wt) b.length k := by simp [Gap.gapTo, hs]
      rw [e] at h2
      rw [if_neg (by decide), e3]
      exact h2
    · obtain ⟨D, eD, d1, d2, d3, d4⟩ := Gap.next_least hkn hs
      rw [if_pos rfl]
      refine sgap_l1 h hkn d2 d3 d4 _ _ (1 + d * (b.length + 2)) (fun K hK => ?_) (D - 1) 1 (by omega) (by omega) K (by omega)
      have h2 := ih (k + 1) (by omega) K hK
      have eg : Gap.gapTo (seenB b s c wt) b.length (k + 1) = mx (Gap.gapTo (seenB b s c wt) b.length k) D := by
        simp only [Gap.gapTo, hs, if_true, eD]
        unfold mx
        rfl
      rw [eg] at h2
      exact h2
theorem sgap_f (h : BtIn b c wt) (K : Nat) (hK : 1 + b.length * (b.length + wt + 2) ≤ K) : spec_l05Gap.f K b s c wt = some (gapB b s c wt) := by
  have m1 : b.length * (wt + 2) ≤ b.length * (b.length + wt + 2) := Nat.mul_le_mul (Nat.le_refl _) (by omega)
  have m2 : b.length * (b.length + 2) ≤ b.length * (b.length + wt + 2) := Nat.mul_le_mul (Nat.le_refl _) (by omega)
  unfold spec_l05Gap.f
  rw [seen_f h K (by omega), Option.bind_some]
  exact sgap_l0 h b.length 0 (by omega) K (by omega)
end
end Go.Proofs.Ytmhkechkkpppaaa
