/- Ways between cells: what is found from a cell outward, and the way back. No program. No condition but those that each theorem names. -/
import Derived.Test.YtinpmhmagcmamaaBN
import Derived.Test.YtinpmhmagcmamaaV1
namespace Go.Proofs.Ytinpmhmagcmamaa.WY
open Go.RowKit Go.Proofs.Ytinpmhmagcmamaa Go.Proofs.YtinpmhmagcmamaaW.PrintWords Go.Proofs.YtinpmhmagcmamaaW.PrintLast Go.Proofs.YtinpmhmagcmamaaW.PrintMore
set_option linter.unusedSimpArgs false
set_option linter.unusedVariables false

/-! ### The list of the cells beside -/
theorem bes_mem {F : Fld} {c : Nat} : ∀ m k, k < m → nextTo F c k = true → ∃ i, i < (bes F c m).length ∧ rd (bes F c m) (i : Int) = (c : Int) + offs k
  | 0, k, h, _ => absurd h (Nat.not_lt_zero k)
  | m + 1, k, h, hk => by
    by_cases e : k = m
    · subst e
      rw [bes_yes hk]
      exact ⟨(bes F c k).length, by simp, rd_app_r _ _⟩
    · obtain ⟨i, hi, hr⟩ := bes_mem m k (by omega) hk
      cases hm : nextTo F c m
      · rw [bes_no hm]; exact ⟨i, hi, hr⟩
      · rw [bes_yes hm]
        exact ⟨i, by rw [List.length_append]; omega, by rw [rd_app_l _ _ hi]; exact hr⟩
theorem bes_out {F : Fld} {c : Nat} : ∀ m i, i < (bes F c m).length → ∃ k, k < m ∧ nextTo F c k = true ∧ rd (bes F c m) (i : Int) = (c : Int) + offs k
  | 0, i, h => by simp [bes] at h
  | m + 1, i, h => by
    cases hm : nextTo F c m
    · rw [bes_no hm] at h ⊢
      obtain ⟨k, h1, h2, h3⟩ := bes_out m i h
      exact ⟨k, by omega, h2, h3⟩
    · rw [bes_yes hm] at h ⊢
      rw [List.length_append] at h
      simp at h
      rcases Nat.lt_or_ge i (bes F c m).length with h1 | h1
      · rw [rd_app_l _ _ h1]
        obtain ⟨k, h1, h2, h3⟩ := bes_out m i h1
        exact ⟨k, by omega, h2, h3⟩
      · obtain rfl : i = (bes F c m).length := by omega
        rw [rd_app_r]
        exact ⟨m, by omega, hm, rfl⟩
theorem offs_lt {j k : Nat} (h : j < k) (hk : k < 4) : offs j < offs k := by
  have key : ∀ k : Fin 4, ∀ j : Fin 4, j.val < k.val → offs j.val < offs k.val := by decide
  exact key ⟨k, hk⟩ ⟨j, by omega⟩ h
/-- The list goes upward. -/
theorem bes_up {F : Fld} {c : Nat} : ∀ m, m ≤ 4 → ∀ i j, i < j → j < (bes F c m).length → rd (bes F c m) (i : Int) < rd (bes F c m) (j : Int)
  | 0, _, i, j, _, h => by simp [bes] at h
  | m + 1, hm4, i, j, hij, h => by
    cases hm : nextTo F c m
    · rw [bes_no hm] at h ⊢
      exact bes_up m (by omega) i j hij h
    · rw [bes_yes hm] at h ⊢
      rw [List.length_append] at h
      simp at h
      rw [rd_app_l _ _ (show i < (bes F c m).length by omega)]
      rcases Nat.lt_or_ge j (bes F c m).length with h1 | h1
      · rw [rd_app_l _ _ h1]
        exact bes_up m (by omega) i j hij h1
      · obtain rfl : j = (bes F c m).length := by omega
        rw [rd_app_r]
        obtain ⟨k, hk, _, hr⟩ := bes_out (F := F) (c := c) m i hij
        rw [hr]
        have := offs_lt hk (by omega)
        omega
theorem flat_back : ∀ c : Fin 100, ∀ k : Fin 4, inB ((c.val : Int) + offs k.val) 0 99 = true → flat c.val k.val = true → flat ((c.val : Int) + offs k.val).toNat (3 - k.val) = true ∧ (((c.val : Int) + offs k.val).toNat : Int) + offs (3 - k.val) = (c.val : Int) := by decide +kernel
theorem next_back {F : Fld} {c k : Nat} (hc : c < 100) (hk : k < 4) (hh : F.has (c : Int) = true) (h : nextTo F c k = true) : ∃ n : Nat, n < 100 ∧ (c : Int) + offs k = (n : Int) ∧ nextTo F n (3 - k) = true ∧ (n : Int) + offs (3 - k) = (c : Int) := by
  unfold nextTo at h
  rw [Bool.and_eq_true] at h
  have hin := has_in h.2
  obtain ⟨h1, h2⟩ := flat_back ⟨c, hc⟩ ⟨k, hk⟩ hin h.1
  simp only at h1 h2
  have hb := inB_iff.1 hin
  refine ⟨((c : Int) + offs k).toNat, by omega, by omega, ?_, h2⟩
  unfold nextTo
  rw [h1, h2, hh]
  rfl

/-! ### Outward -/
def cntN (p : Nat → Bool) : Nat → Nat
  | 0 => 0
  | n + 1 => cntN p n + (if p n = true then 1 else 0)
theorem cntN_le (p : Nat → Bool) : ∀ n, cntN p n ≤ n
  | 0 => by simp [cntN]
  | n + 1 => by
    have := cntN_le p n
    simp only [cntN]
    split <;> omega
theorem cntN_same {p q : Nat → Bool} : ∀ n, (∀ i, i < n → p i = q i) → cntN p n = cntN q n
  | 0, _ => rfl
  | n + 1, h => by
    simp only [cntN]
    rw [cntN_same n (fun i hi => h i (by omega)), h n (by omega)]
theorem cntN_one {p q : Nat → Bool} {a : Nat} (hp : p a = false) (hq : q a = true) (h : ∀ i, i ≠ a → q i = p i) : ∀ n, a < n → cntN q n = cntN p n + 1
  | 0, ha => absurd ha (Nat.not_lt_zero a)
  | n + 1, ha => by
    simp only [cntN]
    by_cases e : a = n
    · subst e
      rw [hp, hq, cntN_same a (fun i hi => h i (by omega))]
      simp
    · rw [cntN_one hp hq h n (by omega), h n (fun e2 => e e2.symm)]
      omega
def upd (D : Nat → Int) (n : Nat) (v : Int) : Nat → Int := fun i => if i = n then v else D i
abbrev BS := List Int × (Nat → Int)
def visit (F : Fld) (q n : Nat) (S : BS) : BS := if (F.way (n : Int) && decide (S.2 n = 0)) = true then (S.1 ++ [(n : Int)], upd S.2 n (S.2 q + 1)) else S
def visTo (F : Fld) (q : Nat) (S : BS) : Nat → BS
  | 0 => S
  | k + 1 => visit F q (rd (bes F q 4) (k : Int)).toNat (visTo F q S k)
def rnd (F : Fld) (i : Nat) (S : BS) : BS := if i < S.1.length then visTo F (rd S.1 (i : Int)).toNat S (bes F (rd S.1 (i : Int)).toNat 4).length else S
def bfs (F : Fld) (t : Nat) : Nat → BS
  | 0 => ([(t : Int)], upd (fun _ => 0) t 1)
  | i + 1 => rnd F i (bfs F t i)
structure BInv (F : Fld) (t : Nat) (S : BS) : Prop where
  q : ∀ i, i < S.1.length → ∃ n : Nat, n < 100 ∧ rd S.1 (i : Int) = (n : Int) ∧ 0 < S.2 n
  c : S.1.length = cntN (fun n => decide (0 < S.2 n)) 100
  lo : ∀ n, 0 ≤ S.2 n
  hi : ∀ n, S.2 n ≤ (S.1.length : Int)
  one : ∀ n, S.2 n = 1 → n = t
  tt : S.2 t = 1
  p : ∀ n, 0 < S.2 n → n < 100 ∧ F.has (n : Int) = true ∧ (1 < S.2 n → ∃ (m : Nat) (i : Nat), i < (bes F n 4).length ∧ rd (bes F n 4) (i : Int) = (m : Int) ∧ S.2 m = S.2 n - 1)
theorem BInv.len {F : Fld} {t : Nat} {S : BS} (h : BInv F t S) : S.1.length ≤ 100 := by rw [h.c]; exact cntN_le _ _
theorem BInv.start {F : Fld} {t : Nat} (ht : t < 100) (hh : F.has (t : Int) = true) : BInv F t ([(t : Int)], upd (fun _ => 0) t 1) where
  q := fun i hi => by
    simp at hi
    subst hi
    exact ⟨t, ht, rfl, by simp [upd]⟩
  c := by
    have h0 : cntN (fun n => decide (0 < (fun _ => (0 : Int)) n)) 100 = 0 := by decide
    have := cntN_one (p := fun n => decide (0 < (fun _ => (0 : Int)) n)) (q := fun n => decide (0 < upd (fun _ => 0) t 1 n)) (a := t) (by simp) (by simp [upd]) (fun i hi => by simp [upd, hi]) 100 ht
    show 1 = _
    rw [this, h0]
  lo := fun n => by simp only [upd]; split <;> omega
  hi := fun n => by simp only [upd, List.length_singleton]; split <;> omega
  one := fun n hn => by
    simp only [upd] at hn
    split at hn
    · assumption
    · omega
  tt := by simp [upd]
  p := fun n hn => by
    simp only [upd] at hn ⊢
    split at hn
    · rename_i e
      subst e
      refine ⟨ht, hh, fun h => ?_⟩
      rw [if_pos rfl] at h
      omega
    · omega
theorem BInv.visit {F : Fld} {t q k : Nat} {S : BS} (h : BInv F t S) (hq : 0 < S.2 q) (hk : k < (bes F q 4).length) : BInv F t (visit F q (rd (bes F q 4) (k : Int)).toNat S) ∧ 0 < (WY.visit F q (rd (bes F q 4) (k : Int)).toNat S).2 q := by
  obtain ⟨j, hj, hn, hr⟩ := bes_out 4 k hk
  obtain ⟨hq1, hqh, _⟩ := h.p q hq
  obtain ⟨n, hn1, hn2, hb1, hb2⟩ := next_back hq1 hj hqh hn
  rw [hr, hn2, Int.toNat_natCast]
  unfold WY.visit
  split
  case isFalse => exact ⟨h, hq⟩
  case isTrue hc =>
  rw [Bool.and_eq_true] at hc
  obtain ⟨hw, h0⟩ := hc
  have h0 : S.2 n = 0 := of_decide_eq_true h0
  have hnq : n ≠ q := fun e => by rw [e] at h0; omega
  have hnt : n ≠ t := fun e => by have := h.tt; rw [← e] at this; omega
  have uo : ∀ i, i ≠ n → upd S.2 n (S.2 q + 1) i = S.2 i := fun i hi => by simp [upd, hi]
  have un : upd S.2 n (S.2 q + 1) n = S.2 q + 1 := by simp [upd]
  refine ⟨⟨fun i hi => ?_, ?_, fun i => ?_, fun i => ?_, fun i hi => ?_, ?_, fun i hi => ?_⟩, ?_⟩
  · simp only [List.length_append, List.length_singleton] at hi
    rcases Nat.lt_or_ge i S.1.length with h1 | h1
    · obtain ⟨m, m1, m2, m3⟩ := h.q i h1
      refine ⟨m, m1, by rw [rd_app_l _ _ h1]; exact m2, ?_⟩
      show 0 < upd S.2 n (S.2 q + 1) m
      rw [uo m (fun e => by rw [e] at m3; omega)]
      exact m3
    · obtain rfl : i = S.1.length := by omega
      exact ⟨n, hn1, rd_app_r _ _, by show 0 < upd S.2 n (S.2 q + 1) n; rw [un]; omega⟩
  · show (S.1 ++ [(n : Int)]).length = cntN (fun i => decide (0 < upd S.2 n (S.2 q + 1) i)) 100
    rw [cntN_one (p := fun i => decide (0 < S.2 i)) (a := n) (by simp [h0]) (by rw [un]; exact decide_eq_true (by omega)) (fun i hi => by rw [uo i hi]) 100 hn1, ← h.c]
    simp
  · show 0 ≤ upd S.2 n (S.2 q + 1) i
    by_cases e : i = n
    · subst e; rw [un]; omega
    · rw [uo i e]; exact h.lo i
  · show upd S.2 n (S.2 q + 1) i ≤ ((S.1 ++ [(n : Int)]).length : Int)
    rw [List.length_append]
    have a1 := h.hi q
    have a2 := h.hi i
    by_cases e : i = n
    · subst e; rw [un]; simp; omega
    · rw [uo i e]; simp; omega
  · have hi : upd S.2 n (S.2 q + 1) i = 1 := hi
    by_cases e : i = n
    · subst e; rw [un] at hi; omega
    · rw [uo i e] at hi; exact h.one i hi
  · show upd S.2 n (S.2 q + 1) t = 1
    rw [uo t (fun e => hnt e.symm)]
    exact h.tt
  · have hi : 0 < upd S.2 n (S.2 q + 1) i := hi
    show i < 100 ∧ F.has (i : Int) = true ∧ (1 < upd S.2 n (S.2 q + 1) i → ∃ (m : Nat) (i2 : Nat), i2 < (bes F i 4).length ∧ rd (bes F i 4) (i2 : Int) = (m : Int) ∧ upd S.2 n (S.2 q + 1) m = upd S.2 n (S.2 q + 1) i - 1)
    by_cases e : i = n
    · subst e
      refine ⟨hn1, way_has hw, fun _ => ?_⟩
      obtain ⟨x, hx1, hx2⟩ := bes_mem 4 (3 - j) (by omega) hb1
      exact ⟨q, x, hx1, by rw [hx2, hb2], by rw [un, uo q (fun e => hnq e.symm)]; omega⟩
    · rw [uo i e] at hi ⊢
      obtain ⟨p1, p2, p3⟩ := h.p i hi
      refine ⟨p1, p2, fun h1 => ?_⟩
      obtain ⟨m, x, hx1, hx2, hx3⟩ := p3 h1
      refine ⟨m, x, hx1, hx2, ?_⟩
      rw [uo m (fun e2 => by rw [e2] at hx3; omega)]
      exact hx3
  · show 0 < upd S.2 n (S.2 q + 1) q
    rw [uo q (fun e => hnq e.symm)]
    exact hq
theorem BInv.visTo {F : Fld} {t q : Nat} {S : BS} (h : BInv F t S) (hq : 0 < S.2 q) : ∀ k, k ≤ (bes F q 4).length → BInv F t (visTo F q S k) ∧ 0 < (WY.visTo F q S k).2 q
  | 0, _ => ⟨h, hq⟩
  | k + 1, hk => by
    obtain ⟨h1, h2⟩ := BInv.visTo h hq k (by omega)
    exact BInv.visit h1 h2 (by omega)
theorem BInv.rnd {F : Fld} {t i : Nat} {S : BS} (h : BInv F t S) : BInv F t (rnd F i S) := by
  unfold WY.rnd
  split
  case isFalse => exact h
  case isTrue hi =>
  obtain ⟨n, _, hn, h0⟩ := h.q i hi
  rw [hn, Int.toNat_natCast]
  exact (BInv.visTo h h0 _ (Nat.le_refl _)).1
theorem BInv.bfs {F : Fld} {t : Nat} (ht : t < 100) (hh : F.has (t : Int) = true) : ∀ i, BInv F t (bfs F t i)
  | 0 => BInv.start ht hh
  | i + 1 => BInv.rnd (BInv.bfs ht hh i)
theorem bfs_stop {F : Fld} {t i : Nat} (h : ¬ i < (bfs F t i).1.length) : ∀ d, bfs F t (i + d) = bfs F t i
  | 0 => rfl
  | d + 1 => by
    have ih := bfs_stop h d
    show rnd F (i + d) (bfs F t (i + d)) = _
    rw [ih]
    unfold rnd
    rw [if_neg (by omega)]
theorem bfs_end {F : Fld} {t i : Nat} (hi : i ≤ 100) (h : ¬ i < (bfs F t i).1.length) : bfs F t i = bfs F t 100 := by
  have := bfs_stop h (100 - i)
  rw [show i + (100 - i) = 100 by omega] at this
  exact this.symm
theorem visTo_len {F : Fld} {q : Nat} (S : BS) : ∀ k, S.1.length ≤ (visTo F q S k).1.length
  | 0 => Nat.le_refl _
  | k + 1 => by
    have := visTo_len (F := F) (q := q) S k
    simp only [visTo]
    unfold visit
    split
    · show _ ≤ ((visTo F q S k).1 ++ [((rd (bes F q 4) (k : Int)).toNat : Int)]).length
      rw [List.length_append]
      omega
    · exact this
/-- What lies in the queue stays. -/
theorem visTo_rd {F : Fld} {q : Nat} (S : BS) {i : Nat} (hi : i < S.1.length) : ∀ k, rd (visTo F q S k).1 (i : Int) = rd S.1 (i : Int)
  | 0 => rfl
  | k + 1 => by
    have h1 := visTo_len (F := F) (q := q) S k
    have ih := visTo_rd (F := F) (q := q) S hi k
    simp only [visTo]
    unfold visit
    split
    · show rd ((visTo F q S k).1 ++ [((rd (bes F q 4) (k : Int)).toNat : Int)]) (i : Int) = _
      rw [rd_app_l _ _ (by omega)]
      exact ih
    · exact ih

/-! ### Back -/
/-- Whether a cell is one nearer. -/
def nearer (D : Nat → Int) (c : Nat) (x : Int) : Bool := decide (0 < D x.toNat) && decide (D x.toNat = D c - 1)
def nx (F : Fld) (D : Nat → Int) (c : Nat) : Int := ((bes F c 4).find? (nearer D c)).getD 0
theorem nx_at {F : Fld} {D : Nat → Int} {c i : Nat} (hi : i < (bes F c 4).length) (hp : nearer D c (rd (bes F c 4) (i : Int)) = true) (hno : ∀ j, j < i → nearer D c (rd (bes F c 4) (j : Int)) = false) : nx F D c = rd (bes F c 4) (i : Int) := by
  have hg : ∀ j (h : j < (bes F c 4).length), rd (bes F c 4) (j : Int) = (bes F c 4)[j] := fun j h => by simp [rd, List.getD_eq_getElem?_getD, List.getElem?_eq_getElem h]
  have : (bes F c 4).find? (nearer D c) = some (rd (bes F c 4) (i : Int)) := by
    rw [List.find?_eq_some_iff_getElem]
    refine ⟨hp, i, hi, (hg i hi).symm, fun j hj => ?_⟩
    rw [← hg j (by omega), hno j hj]
    rfl
  unfold nx
  rw [this]
  rfl
/-- There is a first one. -/
theorem first_at (p : Int → Bool) (L : List Int) : ∀ i, i < L.length → p (rd L (i : Int)) = true → ∃ j, j ≤ i ∧ j < L.length ∧ p (rd L (j : Int)) = true ∧ ∀ k, k < j → p (rd L (k : Int)) = false
  | i, hi, hp => by
    by_cases h : ∃ k, k < i ∧ p (rd L (k : Int)) = true
    · obtain ⟨k, hk, hpk⟩ := h
      obtain ⟨j, h1, h2, h3, h4⟩ := first_at p L k (by omega) hpk
      exact ⟨j, by omega, h2, h3, h4⟩
    · refine ⟨i, Nat.le_refl _, hi, hp, fun k hk => ?_⟩
      cases hpk : p (rd L (k : Int))
      · rfl
      · exact absurd ⟨k, hk, hpk⟩ h
theorem BInv.next {F : Fld} {t : Nat} {S : BS} (h : BInv F t S) {c : Nat} (hc : 0 < S.2 c) (hct : c ≠ t) : ∃ (i n : Nat), i < (bes F c 4).length ∧ nearer S.2 c (rd (bes F c 4) (i : Int)) = true ∧ (∀ j, j < i → nearer S.2 c (rd (bes F c 4) (j : Int)) = false) ∧ rd (bes F c 4) (i : Int) = (n : Int) ∧ nx F S.2 c = (n : Int) ∧ n < 100 ∧ 0 < S.2 n ∧ S.2 n = S.2 c - 1 := by
  have h1 : 1 < S.2 c := by
    have := h.one c
    rcases Int.lt_or_gt_of_ne (show S.2 c ≠ 1 from fun e => hct (this e)) with h2 | h2 <;> omega
  obtain ⟨m, x, hx, hm, hd⟩ := (h.p c hc).2.2 h1
  have hp : nearer S.2 c (rd (bes F c 4) (x : Int)) = true := by
    unfold nearer
    rw [hm, Int.toNat_natCast, hd, Bool.and_eq_true, decide_eq_true_iff, decide_eq_true_iff]
    omega
  obtain ⟨i, _, hi, hpi, hno⟩ := first_at (nearer S.2 c) (bes F c 4) x hx hp
  have hin := inB_iff.1 (has_in (bes_in F c 4 i hi))
  have hnx := nx_at hi hpi hno
  obtain ⟨n, hn⟩ : ∃ n : Nat, rd (bes F c 4) (i : Int) = (n : Int) := ⟨(rd (bes F c 4) (i : Int)).toNat, by omega⟩
  have hpi2 := hpi
  unfold nearer at hpi2
  rw [hn, Int.toNat_natCast, Bool.and_eq_true, decide_eq_true_iff, decide_eq_true_iff] at hpi2
  exact ⟨i, n, hi, hpi, hno, hn, by rw [hnx, hn], by omega, hpi2.1, hpi2.2⟩
def pathC (F : Fld) (D : Nat → Int) (s : Nat) : Nat → Nat
  | 0 => s
  | k + 1 => (nx F D (pathC F D s k)).toNat
def pathL (F : Fld) (D : Nat → Int) (s : Nat) : Nat → List Int
  | 0 => [(s : Int)]
  | k + 1 => pathL F D s k ++ [(pathC F D s (k + 1) : Int)]
theorem pathL_len (F : Fld) (D : Nat → Int) (s : Nat) : ∀ k, (pathL F D s k).length = k + 1
  | 0 => rfl
  | k + 1 => by simp [pathL, pathL_len F D s k]
/-- The way, after as many steps as it is far. -/
theorem BInv.path {F : Fld} {t : Nat} {S : BS} (h : BInv F t S) {s : Nat} (hs : 0 < S.2 s) : ∀ k : Nat, (k : Int) < S.2 s → 0 < S.2 (pathC F S.2 s k) ∧ S.2 (pathC F S.2 s k) = S.2 s - (k : Int)
  | 0, _ => ⟨hs, by simp [pathC]⟩
  | k + 1, hk => by
    obtain ⟨h1, h2⟩ := BInv.path h hs k (by omega)
    have hct : pathC F S.2 s k ≠ t ∨ pathC F S.2 s k = t := by omega
    rcases hct with hct | hct
    · obtain ⟨i, n, _, _, _, _, hn, _, hp, hd⟩ := h.next h1 hct
      simp only [pathC]
      rw [hn, Int.toNat_natCast]
      exact ⟨hp, by omega⟩
    · have := h.tt
      rw [hct] at h2
      omega
end Go.Proofs.Ytinpmhmagcmamaa.WY
