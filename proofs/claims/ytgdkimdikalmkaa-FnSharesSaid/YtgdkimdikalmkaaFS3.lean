/- Shares sum to the money, and no share is off by 1 or more; awards are no more than claims, sum to what there is, and those that are cut are equal but for 1; what is checked is what is told: the plain law. No condition. -/
import Derived.Test.YtgdkimdikalmkaaFS2
namespace Go.Proofs.Ytgdkimdikalmkaa.PFnShares
open Go.RowKit Go.Proofs.YtgdkimdikalmkaaW.PrintWords Go.Proofs.YtgdkimdikalmkaaW.PrintLast Go.Proofs.YtgdkimdikalmkaaW.PrintMore
set_option linter.unusedSimpArgs false
set_option linter.unusedVariables false

/-! ### what is drawn -/
theorem byte_bd {l : List Int} (hb : ∀ x ∈ l, (Lit.int .u8 x).wf = true) {i : Int} (h0 : 0 ≤ i) (h1 : i < (l.length : Int)) : 0 ≤ rd l i ∧ rd l i ≤ 255 := by
  obtain ⟨j, rfl⟩ := Int.eq_ofNat_of_zero_le h0
  have hw := hb _ (rd_mem (l := l) (i := j) (by omega))
  have hh : IntKind.u8.min ≤ rd l (j : Int) ∧ rd l (j : Int) ≤ IntKind.u8.max := by simpa [Lit.wf] using hw
  rw [show IntKind.u8.min = 0 by decide +kernel, show IntKind.u8.max = 255 by decide +kernel] at hh
  exact hh
theorem and_255 (x : Int) : 0 ≤ Go.bits .and .u64 x 255 ∧ Go.bits .and .u64 x 255 ≤ 255 := by
  have e : Go.bits .and .u64 x 255 = IntKind.u64.wrap (((BitVec.ofInt 64 x &&& BitVec.ofInt 64 255).toNat : Nat) : Int) := rfl
  have h : (BitVec.ofInt 64 x &&& BitVec.ofInt 64 255).toNat ≤ 255 := by
    rw [BitVec.toNat_and]
    refine Nat.le_trans Nat.and_le_right ?_
    decide
  have w : ∀ n : Nat, n ≤ 255 → IntKind.u64.wrap (n : Int) = (n : Int) := fun n hn => by
    have : IntKind.u64.wrap (n : Int) = (n : Int) % 18446744073709551616 := by simp [IntKind.wrap, IntKind.bits, IntKind.signed]
    omega
  rw [e, w _ h]
  omega
theorem next_some {l : List Int} (hb : ∀ x ∈ l, (Lit.int .u8 x).wf = true) (at' st : Int) (h0 : 0 ≤ at') (h1 : at' ≤ 1000000) : ∃ b s, spec_l00Src_next.f l at' st = some (b, at' + 1, s) ∧ 0 ≤ b ∧ b ≤ 255 := by
  have hw : wrap64 (at' + 1) = at' + 1 := by unfold wrap64; omega
  unfold spec_l00Src_next.f
  by_cases h : at' < (l.length : Int)
  · have hbd := byte_bd hb h0 h
    rw [if_pos h, if_pos h0, hw, if_pos (by omega)]
    refine ⟨_, _, rfl, ?_⟩
    unfold wrap64
    omega
  · rw [if_neg h, hw, if_neg (by omega)]
    refine ⟨_, _, rfl, ?_⟩
    have := and_255 ((IntKind.u64.wrap ((IntKind.u64.wrap (IntKind.u64.wrap (st * 6364136223846793005))) + 1442695040888963407)) / 1099511627776)
    unfold wrap64
    omega
theorem pick_some {l : List Int} (hb : ∀ x ∈ l, (Lit.int .u8 x).wf = true) (at' st n : Int) (h0 : 0 ≤ at') (h1 : at' ≤ 1000000) (hn : 1 < n) (hn2 : n ≤ 200) : ∃ v s, spec_l00Src_pick.f l at' st n = some (v, at' + 1, s) ∧ 0 ≤ v ∧ v < n := by
  obtain ⟨b, s, hk, hb0, hb1⟩ := next_some hb at' st h0 h1
  refine ⟨Int.tmod b n, s, ?_, ?_, ?_⟩
  · unfold spec_l00Src_pick.f
    rw [if_neg (by omega), hk]
    simp only [Option.bind_some]
    rw [if_neg (by omega), if_neg (by omega)]
  · rw [Int.tmod_eq_emod_of_nonneg hb0]; exact Int.emod_nonneg _ (by omega)
  · rw [Int.tmod_eq_emod_of_nonneg hb0]; exact Int.emod_lt_of_pos _ (by omega)
theorem among_some {l : List Int} (hb : ∀ x ∈ l, (Lit.int .u8 x).wf = true) (at' st : Int) (h0 : 0 ≤ at') (h1 : at' ≤ 1000000) : ∃ v s, spec_l00Src_among.f l at' st [0, 1, 2, 3, 7, 10, 50, 1000] = some (v, at' + 1, s) ∧ 0 ≤ v ∧ v ≤ 1000 := by
  obtain ⟨v, s, hk, h2, h3⟩ := pick_some hb at' st (([0, 1, 2, 3, 7, 10, 50, 1000] : List Int).length : Int) h0 h1 (by decide) (by decide)
  refine ⟨rd [0, 1, 2, 3, 7, 10, 50, 1000] v, s, ?_, ?_⟩
  · unfold spec_l00Src_among.f
    rw [hk]
    simp only [Option.bind_some]
    rw [if_pos h2, if_pos h3]
  · obtain ⟨j, rfl⟩ := Int.eq_ofNat_of_zero_le h2
    have h3 : (j : Int) < 8 := by simpa using h3
    have hj : j < 8 := by omega
    have : ∀ j : Fin 8, 0 ≤ rd ([0, 1, 2, 3, 7, 10, 50, 1000] : List Int) ((j.1 : Nat) : Int) ∧ rd ([0, 1, 2, 3, 7, 10, 50, 1000] : List Int) ((j.1 : Nat) : Int) ≤ 1000 := by decide
    exact this ⟨j, hj⟩
theorem amounts_l0' {l : List Int} (hb : ∀ x ∈ l, (Lit.int .u8 x).wf = true) : ∀ (d : Nat) (xs : List Int) (at' st : Int), xs.length + d ≤ 7 → 0 ≤ at' → at' + (d : Int) ≤ 1000 → (∀ x ∈ xs, (0 : Int) ≤ x ∧ x ≤ 1000) →
    ∃ r, Ev (fun k => spec_A2Amounts.l0 k xs (d : Int) l at' st) r ∧ r.length ≤ 7 ∧ ∀ x ∈ r, (0 : Int) ≤ x ∧ x ≤ 1000
  | 0, xs, at', st, hl, h0, h1, hx => ⟨xs, Ev.step (f := fun _ => some xs) (fun k => by simp only [spec_A2Amounts.l0]; rw [if_neg (by omega)]) (Ev.now _), by omega, hx⟩
  | d + 1, xs, at', st, hl, h0, h1, hx => by
    obtain ⟨v, s, hk, h2, h3⟩ := among_some hb at' st h0 (by omega)
    obtain ⟨r, hr, h4, h5⟩ := amounts_l0' hb d (xs ++ [v]) (at' + 1) s (by simp; omega) (by omega) (by omega) (fun x hm => by
      rcases List.mem_append.1 hm with h | h
      · exact hx x h
      · rw [List.mem_singleton.1 h]; exact ⟨h2, h3⟩)
    refine ⟨r, Ev.step (fun k => ?_) hr, h4, h5⟩
    have e : wrap64 (((d + 1 : Nat) : Int) - 1) = (d : Int) := by unfold wrap64; omega
    simp only [spec_A2Amounts.l0]
    rw [if_pos (by omega), hk]
    simp only [Option.bind_some]
    rw [if_pos (by omega), e]
theorem amounts_some {l : List Int} (hb : ∀ x ∈ l, (Lit.int .u8 x).wf = true) : ∃ r, Ev (fun k => spec_A2Amounts.f k l) r ∧ r.length ≤ 7 ∧ ∀ x ∈ r, (0 : Int) ≤ x ∧ x ≤ 1000 := by
  obtain ⟨v, s, hk, h2, h3⟩ := pick_some hb 0 0 8 (by omega) (by omega) (by omega) (by omega)
  obtain ⟨d, rfl⟩ := Int.eq_ofNat_of_zero_le h2
  obtain ⟨r, hr, h4⟩ := amounts_l0' hb d [] (0 + 1) s (by simp; omega) (by omega) (by omega) (fun x h => by cases h)
  refine ⟨r, Ev.congr (fun k => ?_) hr, h4⟩
  unfold spec_A2Amounts.f spec_l00From.f
  simp only [Option.bind_some]
  rw [hk]
  rfl
theorem at_some {l : List Int} (hb : ∀ x ∈ l, (Lit.int .u8 x).wf = true) (i n : Int) (h0 : 0 ≤ i) (hn : 1 ≤ n) : ∃ v, laws_a2At.f l i n = some v ∧ 0 ≤ v ∧ v < n ∧ v ≤ 255 := by
  unfold laws_a2At.f
  by_cases h : i ≥ (l.length : Int)
  · exact ⟨0, by rw [if_pos h], by omega, by omega, by omega⟩
  · have hbd := byte_bd hb h0 (by omega)
    have e : wrap64 (rd l i) = rd l i := by unfold wrap64; omega
    refine ⟨Int.tmod (rd l i) n, ?_, ?_⟩
    · rw [if_neg h, if_neg (by omega), if_pos h0, if_pos (by omega), if_neg (by omega), e]
    · rw [Int.tmod_eq_emod_of_nonneg hbd.1]
      have h1 := Int.emod_nonneg (rd l i) (show n ≠ 0 by omega)
      have h2 := Int.emod_lt_of_pos (rd l i) (show 0 < n by omega)
      have h3 : rd l i % n ≤ rd l i := by
        have h4 := Int.mul_ediv_add_emod (rd l i) n
        have h5 := Int.mul_nonneg (show 0 ≤ n by omega) (Int.ediv_nonneg hbd.1 (show 0 ≤ n by omega))
        omega
      omega
theorem same_l0 (xs : List Int) (hl : xs.length ≤ 1048576) (d : Nat) : ∀ i : Nat, i ≤ xs.length → xs.length - i = d → Ev (fun k => spec_l00Same.l0 k xs xs (i : Int)) true := by
  induction d with
  | zero =>
    intro i hi hd
    obtain rfl : i = xs.length := by omega
    refine Ev.step (f := fun _ => some true) (fun k => ?_) (Ev.now _)
    simp only [spec_l00Same.l0]
    rw [if_neg (by omega)]
  | succ d ih =>
    intro i hi hd
    refine Ev.step (fun k => ?_) (ih (i + 1) (by omega) (by omega))
    simp only [spec_l00Same.l0]
    rw [if_pos (by omega), if_pos (by omega), if_pos (by omega), wnat (by omega)]
    simp only [if_true]
theorem same (xs : List Int) (hl : xs.length ≤ 1048576) : Ev (fun k => spec_A2Same.f k xs xs) true := by
  unfold spec_A2Same.f
  refine Ev.bind (a := true) (Ev.congr (fun k => ?_) (same_l0 xs hl xs.length 0 (by omega) (by omega))) (Ev.now _)
  unfold spec_l00Same.f
  rw [if_pos rfl]
  rfl

/-! ### shares -/
structure Few (am : List Int) (m : Int) : Prop where
  ok : okAll am m = true
  len : am.length ≤ 7
  each : ∀ i : Nat, i < am.length → 0 ≤ rd am (i : Int) ∧ rd am (i : Int) ≤ 1000
  m0 : 0 ≤ m
  m1 : m ≤ 2040
theorem few {am : List Int} {m : Int} (hl : am.length ≤ 7) (h : ∀ x ∈ am, (0 : Int) ≤ x ∧ x ≤ 1000) (m0 : 0 ≤ m) (m1 : m ≤ 2040) : Few am m := by
  refine ⟨?_, hl, fun i hi => h _ (rd_mem hi), m0, m1⟩
  unfold okAll X1.money
  simp only [Bool.and_eq_true, decide_eq_true_eq, List.all_eq_true]
  exact ⟨fun x hx => by have := h x hx; omega, ⟨m0, by omega⟩, by omega⟩
theorem Few.sum {am : List Int} {m : Int} (h : Few am m) : 0 ≤ wsum am am.length ∧ wsum am am.length ≤ 7000000 ∧ wsum am am.length = am.sum := by
  have h1 := sum_small (l := am) (c := 1000) (by omega) (by have := h.len; omega) h.each am.length (Nat.le_refl _)
  have hw := wsum_eq (am := am) (m := m) h.ok am.length (Nat.le_refl _)
  rw [← wsum_all] at hw
  have hl := h.len
  rw [List.take_length] at h1
  exact ⟨h1.2.1, by have := hw.2.2; omega, h1.1⟩
theorem SX_sum {L : List Int} (hl : L.length ≤ 100) (h : ∀ i : Nat, i < L.length → 0 ≤ rd L (i : Int) ∧ rd L (i : Int) ≤ 3000000) : wsum L L.length = SH.isum (fun j => rd L (j : Int)) L.length := by
  rw [wsum_all]
  exact (wsum_small hl (fun i hi => by have := h i hi; omega) L.length (Nat.le_refl _)).1
structure Due (am due : List Int) (m S : Int) : Prop where
  len : due.length = am.length
  fit : ∀ i : Nat, i < am.length → Fit am due m S i
  sum : wsum due due.length = m
  near : 0 < S → ∀ i : Nat, i < am.length → m * rd am (i : Int) - S < rd due (i : Int) * S ∧ rd due (i : Int) * S < m * rd am (i : Int) + S
  zero : S = 0 → ∀ i : Nat, i < am.length → rd due (i : Int) = 0
  mono : ∀ i k : Nat, i < am.length → k < am.length → rd am (k : Int) < rd am (i : Int) → rd due (k : Int) ≤ rd due (i : Int)
  bd : ∀ i : Nat, i < am.length → 0 ≤ rd due (i : Int) ∧ rd due (i : Int) ≤ 3000000
theorem rd_rep (n i : Nat) : rd (List.replicate n (0 : Int)) (i : Int) = 0 := by
  simp only [rd, Int.toNat_natCast, List.getD_eq_getElem?_getD]
  by_cases h : i < n
  · rw [List.getElem?_eq_getElem (by simpa using h)]; simp
  · rw [List.getElem?_eq_none (by simpa using h)]; rfl
theorem mul_small {m a : Int} (m0 : 0 ≤ m) (m1 : m ≤ 2040) (a0 : 0 ≤ a) (a1 : a ≤ 1000) : 0 ≤ m * a ∧ m * a ≤ 2040000 :=
  ⟨Int.mul_nonneg m0 a0, by have := Int.mul_le_mul m1 a1 a0 (by omega); omega⟩
theorem div_bd {x S : Int} (h0 : 0 ≤ x) (hS : 0 < S) : 0 ≤ x / S ∧ x / S ≤ x := ⟨Int.ediv_nonneg h0 (by omega), Int.ediv_le_self _ h0⟩
theorem w_of {x c : Int} (h0 : 0 ≤ x) (h1 : x ≤ c) (hc : c ≤ 1000000000000) : wrap64 x = x := by unfold wrap64; omega
theorem lo_eq {am : List Int} {m S : Int} {i : Nat} (hS : 0 < S) (h : 0 ≤ m * rd am (i : Int) ∧ m * rd am (i : Int) ≤ 2040000) : lo am m S i = m * rd am (i : Int) / S := by
  have hd := div_bd h.1 hS
  unfold lo
  rw [w_of h.1 h.2 (by omega), Int.tdiv_eq_ediv_of_nonneg h.1, w_of hd.1 (Int.le_trans hd.2 h.2) (by omega)]
theorem hi_eq {am : List Int} {m S : Int} {i : Nat} (hS : 0 < S) (hS2 : S ≤ 7000000) (h : 0 ≤ m * rd am (i : Int) ∧ m * rd am (i : Int) ≤ 2040000) : hi am m S i = (m * rd am (i : Int) + S - 1) / S := by
  have hx : 0 ≤ m * rd am (i : Int) + S - 1 := by omega
  have hd := div_bd hx hS
  unfold hi
  rw [w_of h.1 h.2 (by omega), w_of (x := m * rd am (i : Int) + S) (c := 10000000) (by omega) (by omega) (by omega), w_of (x := m * rd am (i : Int) + S - 1) (c := 10000000) hx (by omega) (by omega), Int.tdiv_eq_ediv_of_nonneg hx, w_of (c := 10000000) hd.1 (by omega) (by omega)]
theorem due_ex {am : List Int} {m : Int} (h : Few am m) (hc : codeOf am m = 0) : ∃ due, shRes am m = (due, 0) ∧ Due am due m (wsum am am.length) := by
  have hcp : PAll.codeOf am m = 0 := by rw [← codeOf_all]; exact hc
  obtain ⟨s0, s1, s2⟩ := h.sum
  have hl := h.len
  have hwp := wsum_all am am.length
  unfold shRes
  rw [if_pos hcp, ← hwp]
  by_cases hS : wsum am am.length = 0
  · rw [if_pos hS]
    have hm : m = 0 := by
      unfold codeOf at hc
      rw [if_pos h.ok, if_pos hS] at hc
      split at hc
      · assumption
      · cases hc
    refine ⟨_, rfl, ?_⟩
    rw [hS]
    refine ⟨by simp, fun i hi => ?_, ?_, fun h => absurd h (by omega), fun _ i hi => rd_rep _ _, fun i k _ _ _ => ?_, fun i hi => ?_⟩
    · unfold Fit
      rw [if_neg (by omega), rd_rep]
      exact ⟨Int.le_refl _, Int.le_refl _⟩
    · rw [sum_whole (c := 0) (by omega) (by simp; omega) (fun i _ => by rw [rd_rep]; omega), hm]
      simp
    · rw [rd_rep, rd_rep]; exact Int.le_refl _
    · rw [rd_rep]; omega
  · rw [if_neg hS]
    have hSp : 0 < wsum am am.length := by omega
    have hf := shTo_fair (am := am) (m := m) h.ok (by rw [← hwp]; exact hSp)
    rw [← hwp] at hf
    have hlen := shTo_len am m (wsum am am.length) (shLeft am m (wsum am am.length))
    generalize wsum am am.length = S at *
    generalize shTo am m S (shLeft am m S) = due at *
    have hnear := fun (i : Nat) (hi : i < am.length) => hf.near hSp hi
    have hbd : ∀ i : Nat, i < am.length → 0 ≤ rd due (i : Int) ∧ rd due (i : Int) ≤ 3000000 := fun i hi => by
      have ha := h.each i hi
      have hp := mul_small h.m0 h.m1 ha.1 ha.2
      have hd := div_bd hp.1 hSp
      rcases hf.each i hi with e | ⟨e, -⟩
      · have e : rd due (i : Int) = m * rd am (i : Int) / S := e
        omega
      · have e : rd due (i : Int) = m * rd am (i : Int) / S + 1 := e
        omega
    refine ⟨due, rfl, hlen, fun i hi => ?_, ?_, fun _ i hi => ⟨(hnear i hi).1, (hnear i hi).2.1⟩, fun h => absurd h (by omega), hf.mono, hbd⟩
    · have ha := h.each i hi
      have hp := mul_small h.m0 h.m1 ha.1 ha.2
      unfold Fit
      rw [if_pos hSp, lo_eq hSp hp, hi_eq hSp s1 hp]
      exact ⟨(hnear i hi).2.2.1, (hnear i hi).2.2.2⟩
    · have h1 := SX_sum (L := due) (by rw [hlen]; omega) (fun i hi => hbd i (by rw [← hlen]; exact hi))
      rw [h1, hlen]
      exact hf.sum
end Go.Proofs.Ytgdkimdikalmkaa.PFnShares
