/- Awards and shares: what they come to, in plain numbers; what the checks say of them. No condition but those that each theorem names. -/
import Derived.Test.YtgdkimdikalmkaaFS1
namespace Go.Proofs.Ytgdkimdikalmkaa.PFnShares
open Go.RowKit Go.Proofs.YtgdkimdikalmkaaW.PrintWords Go.Proofs.YtgdkimdikalmkaaW.PrintLast Go.Proofs.YtgdkimdikalmkaaW.PrintMore
set_option linter.unusedSimpArgs false
set_option linter.unusedVariables false

theorem wsum_all (l : List Int) : ∀ i, wsum l i = PAll.wsum l i
  | 0 => rfl
  | i + 1 => by
    have h := wsum_all l i
    show wrap64 (wsum l i + rd l (i : Int)) = wrap64 (PAll.wsum l i + rd l (i : Int))
    rw [h]
theorem okAll_all (l : List Int) (m : Int) : okAll l m = PAll.okAll l m := rfl
theorem codeOf_all (l : List Int) (m : Int) : codeOf l m = PAll.codeOf l m := by
  show (if okAll l m = true then (if wsum l l.length = 0 then (if m = 0 then 0 else 4) else 0) else 2) = (if PAll.okAll l m = true then (if PAll.wsum l l.length = 0 then (if m = 0 then 0 else 4) else 0) else 2)
  rw [wsum_all, okAll_all]

/-! ### sums of small lists -/
theorem sum_small {l : List Int} {c : Int} (hc : c ≤ 1000000000) (hl : l.length ≤ 100) (h : ∀ i : Nat, i < l.length → 0 ≤ rd l (i : Int) ∧ rd l (i : Int) ≤ c) : ∀ i : Nat, i ≤ l.length → wsum l i = (l.take i).sum ∧ 0 ≤ wsum l i ∧ wsum l i ≤ 1000000000 * (i : Int)
  | 0, _ => ⟨by simp [wsum], by simp [wsum], by simp [wsum]⟩
  | i + 1, hi => by
    obtain ⟨h1, h2, h3⟩ := sum_small hc hl h i (by omega)
    have h4 := h i (by omega)
    have e : wrap64 (wsum l i + rd l (i : Int)) = wsum l i + rd l (i : Int) := by unfold wrap64; omega
    have es : (l.take (i + 1)).sum = (l.take i).sum + rd l (i : Int) := by
      rw [List.take_succ_eq_append_getElem (by omega), List.sum_append, rd_get (by omega)]
      simp
    refine ⟨?_, ?_, ?_⟩
    · show wrap64 (wsum l i + rd l (i : Int)) = _
      rw [e, h1, es]
    · show 0 ≤ wrap64 (wsum l i + rd l (i : Int))
      rw [e]; omega
    · show wrap64 (wsum l i + rd l (i : Int)) ≤ _
      rw [e]; omega
theorem sum_whole {l : List Int} {c : Int} (hc : c ≤ 1000000000) (hl : l.length ≤ 100) (h : ∀ i : Nat, i < l.length → 0 ≤ rd l (i : Int) ∧ rd l (i : Int) ≤ c) : wsum l l.length = l.sum := by
  have := (sum_small hc hl h l.length (Nat.le_refl _)).1
  rw [List.take_length] at this
  exact this
theorem rd_zero (x : Int) (xs : List Int) : rd (x :: xs) ((0 : Nat) : Int) = x := rfl
theorem rd_succ (x : Int) (xs : List Int) (i : Nat) : rd (x :: xs) ((i + 1 : Nat) : Int) = rd xs (i : Int) := by
  simp only [rd, Int.toNat_natCast, List.getD_eq_getElem?_getD, List.getElem?_cons_succ]
theorem rd_set_same {l : List Int} {j : Nat} (h : j < l.length) (v : Int) : rd (l.set j v) (j : Int) = v := by
  rw [rd_get (by rw [List.length_set]; exact h), List.getElem_set_self]
theorem rd_set_other {l : List Int} {i j : Nat} (hne : i ≠ j) (v : Int) : rd (l.set j v) (i : Int) = rd l (i : Int) := by
  simp only [rd, Int.toNat_natCast, List.getD_eq_getElem?_getD]
  rw [List.getElem?_set_ne (fun h => hne h.symm)]
theorem sum_set : ∀ (l : List Int) (j : Nat) (v : Int), j < l.length → (l.set j v).sum = l.sum - rd l (j : Int) + v
  | [], j, v, h => absurd h (Nat.not_lt_zero _)
  | x :: xs, 0, v, h => by
    rw [rd_zero]
    simp only [List.set_cons_zero, List.sum_cons]
    omega
  | x :: xs, j + 1, v, h => by
    rw [rd_succ]
    simp only [List.set_cons_succ, List.sum_cons]
    rw [sum_set xs j v (by simpa using h)]
    omega

/-! ### awards -/
namespace EA
def cnt (low : Int) : List Int → Int
  | [] => 0
  | c :: cs => (if c > low then 1 else 0) + cnt low cs
theorem cnt_pos (low : Int) : ∀ cs, 0 ≤ cnt low cs
  | [] => Int.le_refl _
  | c :: cs => by
    have := cnt_pos low cs
    simp only [cnt]
    split <;> omega
theorem les_sum_next (low : Int) : ∀ cs : List Int, (les cs (low + 1)).sum = (les cs low).sum + cnt low cs
  | [] => rfl
  | c :: cs => by
    have ih := les_sum_next low cs
    unfold les at *
    simp only [List.map_cons, List.sum_cons, cnt]
    have e : mn c (low + 1) = mn c low + (if c > low then 1 else 0) := by unfold mn; split <;> split <;> omega
    rw [ih, e]
    omega
theorem award_sum (low : Int) (h0 : 0 ≤ low) (h1 : low ≤ 1000000) : ∀ (cs : List Int) (left : Int), 0 ≤ left → left ≤ cnt low cs → (award low cs left).sum = (les cs low).sum + left
  | [], left, hl, hc => by
    simp only [cnt] at hc
    have : left = 0 := by omega
    rw [this]
    rfl
  | c :: cs, left, hl, hc => by
    simp only [cnt] at hc
    have hp := cnt_pos low cs
    have el : (les (c :: cs) low).sum = mn c low + (les cs low).sum := by simp [les]
    simp only [award]
    rw [el]
    by_cases h : c > low
    · rw [if_pos h] at hc
      rw [if_pos h]
      by_cases hz : left > 0
      · rw [if_pos hz, List.sum_cons, award_sum low h0 h1 cs (left - 1) (by omega) (by omega)]
        have e : mn c low = low := by unfold mn; split <;> omega
        rw [e]
        have e2 : wrap64 (low + 1) = low + 1 := by unfold wrap64; omega
        rw [e2]
        omega
      · rw [if_neg hz, List.sum_cons, award_sum low h0 h1 cs left hl (by omega)]
        omega
    · rw [if_neg h] at hc
      rw [if_neg h, List.sum_cons, award_sum low h0 h1 cs left hl (by omega)]
      omega
theorem award_at (low : Int) (h0 : 0 ≤ low) (h1 : low ≤ 1000000) : ∀ (cs : List Int) (left : Int) (i : Nat), i < cs.length → rd (award low cs left) (i : Int) = mn (rd cs (i : Int)) low ∨ (low < rd cs (i : Int) ∧ rd (award low cs left) (i : Int) = low + 1)
  | [], left, i, h => absurd h (Nat.not_lt_zero _)
  | c :: cs, left, 0, h => by
    rw [rd_zero]
    simp only [award]
    by_cases h : c > low
    · rw [if_pos h]
      have e : mn c low = low := by unfold mn; split <;> omega
      have e2 : wrap64 (low + 1) = low + 1 := by unfold wrap64; omega
      split
      · rw [rd_zero, e, e2]
        exact .inr ⟨h, rfl⟩
      · rw [rd_zero]
        exact .inl rfl
    · rw [if_neg h, rd_zero]
      exact .inl rfl
  | c :: cs, left, i + 1, h => by
    have hi : i < cs.length := by simpa using h
    rw [rd_succ]
    simp only [award]
    split
    · split
      · rw [rd_succ]; exact award_at low h0 h1 cs (left - 1) i hi
      · rw [rd_succ]; exact award_at low h0 h1 cs left i hi
    · rw [rd_succ]; exact award_at low h0 h1 cs left i hi
end EA
/-- Awards, in plain numbers. -/
structure Awd (am aw : List Int) (m : Int) : Prop where
  len : aw.length = am.length
  each : ∀ i : Nat, i < am.length → 0 ≤ rd aw (i : Int) ∧ rd aw (i : Int) ≤ rd am (i : Int)
  cut : ∀ i k : Nat, i < am.length → k < am.length → rd aw (k : Int) < rd am (k : Int) → rd aw (i : Int) ≤ rd aw (k : Int) + 1
  sum : wsum aw aw.length = mn m (wsum am am.length)
theorem awd_self {am : List Int} {m : Int} (hok : okAll am m = true) (h : wsum am am.length ≤ m) : Awd am am m :=
  ⟨rfl, fun i hi => ⟨(okAll_at hok hi).1, Int.le_refl _⟩, fun i k _ _ h => absurd h (Int.lt_irrefl _), by unfold mn; split <;> omega⟩
theorem awd_level {am : List Int} {m n : Int} (hok : okAll am m = true) (h : ¬ wsum am am.length ≤ m) (a : EA.Level am m n) : Awd am (EA.award n am (m - EA.lev am n)) m := by
  have hs : EA.Small am := ⟨okAll_len hok, fun i hi => okAll_at hok hi⟩
  have hl := okAll_len hok
  have hel := EA.award_len n am (m - EA.lev am n)
  have n0 := a.n0
  have n1 := a.n1
  have hat := fun (i : Nat) (hi : i < am.length) => EA.award_at n n0 (by omega) am (m - EA.lev am n) i hi
  have hee : ∀ i : Nat, i < am.length → 0 ≤ rd (EA.award n am (m - EA.lev am n)) (i : Int) ∧ rd (EA.award n am (m - EA.lev am n)) (i : Int) ≤ rd am (i : Int) := fun i hi => by
    have h1 := okAll_at hok hi
    rcases hat i hi with e | ⟨e1, e2⟩
    · rw [e]
      unfold mn
      split <;> omega
    · omega
  have lesat : ∀ (v : Int) (i : Nat), 0 ≤ v → i < (EA.les am v).length → 0 ≤ rd (EA.les am v) (i : Int) ∧ rd (EA.les am v) (i : Int) ≤ 1000000 := fun v i hv hi => by
    rw [EA.les_len] at hi
    have h1 := okAll_at hok hi
    rw [EA.les_rd hi]
    unfold mn
    split <;> omega
  have lsum : ∀ v, 0 ≤ v → EA.lev am v = (EA.les am v).sum := fun v hv => by
    have := sum_whole (l := EA.les am v) (c := 1000000) (by omega) (by rw [EA.les_len]; exact hl) (fun i hi => lesat v i hv hi)
    rw [EA.les_len] at this
    exact this
  refine ⟨hel, hee, fun i k hi hk hlt => ?_, ?_⟩
  · have h1 := hat i hi
    have h2 := hat k hk
    have e1 : mn (rd am (i : Int)) n ≤ n := by unfold mn; split <;> omega
    have e2 : rd am (k : Int) ≤ n → mn (rd am (k : Int)) n = rd am (k : Int) := fun h => by unfold mn; split <;> omega
    have e3 : n < rd am (k : Int) → mn (rd am (k : Int)) n = n := fun h => by unfold mn; split <;> omega
    by_cases hc : rd am (k : Int) ≤ n
    · have := e2 hc
      omega
    · have := e3 (by omega)
      omega
  · have h1 := a.le
    have h2 := a.gt
    rw [lsum _ (by omega), EA.les_sum_next, ← lsum n n0] at h2
    have e := EA.award_sum n n0 (by omega) am (m - EA.lev am n) (by omega) (by omega)
    rw [← lsum n n0] at e
    rw [sum_whole (c := 1000000) (by omega) (by omega) (fun i hi => by
      rw [hel] at hi
      have h3 := hee i hi
      have h4 := okAll_at hok hi
      omega), e]
    unfold mn
    split <;> omega
theorem awd_ev {am : List Int} {m : Int} (hok : okAll am m = true) : ∃ aw, Awd am aw m ∧ Ev (fun k => impl_EqualAwards.f k am m) (aw, 0) ∧ Ev (fun k => spec_EqualAwards.f k am m) (aw, 0) := by
  have hs : EA.Small am := ⟨okAll_len hok, fun i hi => okAll_at hok hi⟩
  obtain ⟨m0, m1⟩ := okAll_m hok
  have hl := hs.len
  have h1 : am.length ≤ 1048576 := by omega
  have etop : EA.lev am 1000000 = wsum am am.length := by unfold EA.lev; rw [EA.les_top hs]
  unfold spec_EqualAwards.f impl_EqualAwards.f
  by_cases ht : wsum am am.length ≤ m
  · refine ⟨am, awd_self hok ht, Ev.congr (f := fun k => (impl_total.f k am).bind fun t160 => (if t160 ≤ m then ((impl_lesser.f k am 1000000).bind fun t161 => (some (t161, 0))) else (impl_EqualAwards.l0 k am m 0 1000000))) (fun k => ?_) (Ev.bind (total am h1) (Ev.congr (f := fun k => (impl_lesser.f k am 1000000).bind fun t161 => (some (t161, 0))) (fun k => ?_) (Ev.bind (EA.lesser am 1000000 h1) (ev_eq fun k => ?_)))),
      Ev.bind (amounts am m h1) (Ev.congr (f := fun k => (spec_l06Sum.f k am).bind fun t125 => (if t125 ≤ m then ((spec_l00Own.f am).bind fun t126 => (some (t126, 0))) else (spec_EqualAwards.l0 k am m 0 1000000))) (fun k => ?_) (Ev.bind (l06Sum am h1) (ev_eq fun k => ?_)))⟩
    · rw [areClaims, hok]; rfl
    · rw [if_pos ht]
    · rw [EA.les_top hs]
    · rw [hok, if_pos rfl]
    · rw [if_pos ht]
      unfold spec_l00Own.f
      simp only [Option.bind_some, List.nil_append, List.length_nil, Nat.zero_add]
      rw [if_pos (by omega)]
      rfl
  · obtain ⟨n, a⟩ := EA.level_ex (cl := am) (m := m) 999999 0 1000000 (by omega) (by omega) (by omega) (by omega) (by unfold EA.lev; rw [EA.lev_zero hs _ (Nat.le_refl _)]; exact m0) (by rw [etop]; omega)
    refine ⟨_, awd_level hok ht a, Ev.congr (f := fun k => (impl_total.f k am).bind fun t160 => (if t160 ≤ m then ((impl_lesser.f k am 1000000).bind fun t161 => (some (t161, 0))) else (impl_EqualAwards.l0 k am m 0 1000000))) (fun k => ?_) (Ev.bind (total am h1) (Ev.congr (fun k => ?_) (EA.i_l0 hs a m1 1000000 0 1000000 (by omega) (by omega) (by omega) (by omega) (by unfold EA.lev; rw [EA.lev_zero hs _ (Nat.le_refl _)]; exact m0) (by rw [etop]; omega)))),
      Ev.bind (amounts am m h1) (Ev.congr (f := fun k => (spec_l06Sum.f k am).bind fun t125 => (if t125 ≤ m then ((spec_l00Own.f am).bind fun t126 => (some (t126, 0))) else (spec_EqualAwards.l0 k am m 0 1000000))) (fun k => ?_) (Ev.bind (l06Sum am h1) (Ev.congr (fun k => ?_) (EA.s_l0 hs a m1 1000000 0 1000000 (by omega) (by omega) (by omega) (by omega) (by unfold EA.lev; rw [EA.lev_zero hs _ (Nat.le_refl _)]; exact m0) (.inl rfl) (by rw [etop]; omega)))))⟩
    · rw [areClaims, hok]; rfl
    · rw [if_neg ht]
    · rw [hok, if_pos rfl]
    · rw [if_neg ht]

/-! ### checks of awards -/
theorem ca_l0 {am aw : List Int} {m : Int} (he : aw.length = am.length) (hl : am.length ≤ 100) {r : Bool × Int} (hr : Ev (fun f => impl_CheckAwards.l1 f am m aw aw (aw.length : Int) ((0 : Nat) : Int)) r) (d : Nat) : ∀ i : Nat, i ≤ aw.length → aw.length - i = d → (∀ j : Nat, i ≤ j → j < aw.length → 0 ≤ rd aw (j : Int) ∧ rd aw (j : Int) ≤ rd am (j : Int)) → Ev (fun f => impl_CheckAwards.l0 f am m aw aw (aw.length : Int) (i : Int)) r := by
  induction d with
  | zero =>
    intro i hi hd _
    refine Ev.step (fun f => ?_) hr
    simp only [impl_CheckAwards.l0]; rw [if_neg (by omega)]; rfl
  | succ d ih =>
    intro i hi hd hall
    have h := hall i (Nat.le_refl _) (by omega)
    refine Ev.step (fun f => ?_) (ih (i + 1) (by omega) (by omega) (fun j hj => hall j (by omega)))
    simp only [impl_CheckAwards.l0]; rw [if_pos (by omega), if_pos (by omega), if_pos (by omega), if_pos (by omega), p_within, wnat (by omega)]
    simp [h.1, h.2]
theorem ca_l0_no {am aw : List Int} {m : Int} (he : aw.length = am.length) (hl : am.length ≤ 100) (hr : Ev (fun f => impl_CheckAwards.l1 f am m aw aw (aw.length : Int) ((0 : Nat) : Int)) (false, 0)) (d : Nat) : ∀ i : Nat, i ≤ aw.length → aw.length - i = d → Ev (fun f => impl_CheckAwards.l0 f am m aw aw (aw.length : Int) (i : Int)) (false, 0) := by
  induction d with
  | zero =>
    intro i hi hd
    refine Ev.step (fun f => ?_) hr
    simp only [impl_CheckAwards.l0]; rw [if_neg (by omega)]; rfl
  | succ d ih =>
    intro i hi hd
    cases hb : (decide (0 ≤ rd aw (i : Int)) && decide (rd aw (i : Int) ≤ rd am (i : Int))) with
    | true =>
      refine Ev.step (fun f => ?_) (ih (i + 1) (by omega) (by omega))
      simp only [impl_CheckAwards.l0]; rw [if_pos (by omega), if_pos (by omega), if_pos (by omega), if_pos (by omega), p_within, hb, wnat (by omega)]; rfl
    | false =>
      refine Ev.step (f := fun _ => some (false, 0)) (fun f => ?_) (Ev.now _)
      simp only [impl_CheckAwards.l0]; rw [if_pos (by omega), if_pos (by omega), if_pos (by omega), if_pos (by omega), p_within, hb]; rfl
theorem ca_of {am aw : List Int} {m : Int} (hok : okAll am m = true) (he : aw.length = am.length) {r : Bool × Int} (h : Ev (fun f => impl_CheckAwards.l0 f am m aw aw (aw.length : Int) ((0 : Nat) : Int)) r) : Ev (fun k => impl_CheckAwards.f k am m aw) r := by
  refine Ev.congr (fun f => ?_) h
  unfold impl_CheckAwards.f
  rw [areClaims, hok]
  simp only [Option.bind_some, if_true]
  rw [if_pos (by omega)]
  rfl
theorem ca_yes {am aw : List Int} {m : Int} (hok : okAll am m = true) (h : Awd am aw m) : Ev (fun k => impl_CheckAwards.f k am m aw) (true, 0) := by
  have hl := okAll_len hok
  have he := h.len
  refine ca_of hok he (ca_l0 he hl (CA.i_l1 am aw m he (by omega) (true, 0) aw.length 0 (by omega) (by omega) (fun ⟨i, k, h0, hi, hk, hb⟩ => ?_) (fun _ => ?_)) aw.length 0 (by omega) (by omega) (fun j _ hj => h.each j (by omega)))
  · have h1 := h.each i (by omega)
    have h2 := okAll_at hok (show i < am.length by omega)
    have h3 := hb.2
    have e : wrap64 (rd aw (i : Int) + 1) = rd aw (i : Int) + 1 := by unfold wrap64; omega
    rw [e] at h3
    have h4 := h.cut k i (by omega) (by omega) hb.1
    omega
  · unfold CA.fin
    rw [h.sum]
    simp
theorem ca_no {am aw : List Int} {m : Int} (hok : okAll am m = true) (he : aw.length = am.length) (hne : wsum aw aw.length ≠ mn m (wsum am am.length)) : Ev (fun k => impl_CheckAwards.f k am m aw) (false, 0) := by
  have hl := okAll_len hok
  refine ca_of hok he (ca_l0_no he hl (CA.i_l1 am aw m he (by omega) (false, 0) aw.length 0 (by omega) (by omega) (fun _ => rfl) (fun _ => ?_)) aw.length 0 (by omega) (by omega))
  unfold CA.fin
  simp [hne]

/-! ### checks of shares -/
def lo (am : List Int) (m s : Int) (i : Nat) : Int := wrap64 (Int.tdiv (wrap64 (m * (rd am (i : Int)))) s)
def hi (am : List Int) (m s : Int) (i : Nat) : Int := wrap64 (Int.tdiv (wrap64 ((wrap64 ((wrap64 (m * (rd am (i : Int)))) + s)) - 1)) s)
def Fit (am sh : List Int) (m s : Int) (i : Nat) : Prop := if s > 0 then lo am m s i ≤ rd sh (i : Int) ∧ rd sh (i : Int) ≤ hi am m s i else 0 ≤ rd sh (i : Int) ∧ rd sh (i : Int) ≤ 0
theorem cs_end {am sh : List Int} {m s : Int} (hl : sh.length ≤ 100) (he : sh.length = am.length) : Ev (fun f => impl_CheckShares.l0 f m sh s am (am.length : Int) ((am.length : Nat) : Int)) (wsum sh sh.length == m, 0) := by
  refine Ev.step (f := fun f => (impl_total.f f sh).bind fun t134 => (some ((t134 == m), 0))) (fun f => ?_) (Ev.bind (total sh (by omega)) (ev_eq fun _ => rfl))
  simp only [impl_CheckShares.l0]; rw [if_neg (by omega)]
theorem cs_step {am sh : List Int} {m s : Int} (hl : sh.length ≤ 100) (he : sh.length = am.length) {i : Nat} (hi : i < am.length) {r : Bool × Int} (hf : Fit am sh m s i) (h : Ev (fun f => impl_CheckShares.l0 f m sh s am (am.length : Int) ((i + 1 : Nat) : Int)) r) : Ev (fun f => impl_CheckShares.l0 f m sh s am (am.length : Int) (i : Int)) r := by
  unfold Fit at hf
  refine Ev.step (fun f => ?_) h
  by_cases hs : s > 0
  · rw [if_pos hs] at hf
    have hf1 := hf.1
    have hf2 := hf.2
    simp only [impl_CheckShares.l0]
    rw [if_pos (by omega), if_pos (by omega), if_pos (by omega), if_pos hs, if_neg (by omega), if_pos (by omega), p_within, wnat (by omega)]
    show ((some (decide (lo am m s i ≤ rd sh (i : Int)) && decide (rd sh (i : Int) ≤ PFnShares.hi am m s i))).bind _) = _
    simp only [hf1, hf2, decide_true, Bool.and_true, Option.bind_some, if_true]
  · rw [if_neg hs] at hf
    have hf1 := hf.1
    have hf2 := hf.2
    simp only [impl_CheckShares.l0]
    rw [if_pos (by omega), if_pos (by omega), if_pos (by omega), if_neg hs, if_pos (by omega), p_within, wnat (by omega)]
    simp only [hf1, hf2, decide_true, Bool.and_true, Option.bind_some, if_true]
theorem cs_fail {am sh : List Int} {m s : Int} (hl : sh.length ≤ 100) (he : sh.length = am.length) {i : Nat} (hi : i < am.length) (hf : ¬ Fit am sh m s i) : Ev (fun f => impl_CheckShares.l0 f m sh s am (am.length : Int) (i : Int)) (false, 0) := by
  unfold Fit at hf
  refine Ev.step (f := fun _ => some (false, 0)) (fun f => ?_) (Ev.now _)
  by_cases hs : s > 0
  · rw [if_pos hs] at hf
    simp only [impl_CheckShares.l0]
    rw [if_pos (by omega), if_pos (by omega), if_pos (by omega), if_pos hs, if_neg (by omega), if_pos (by omega), p_within]
    have e : (decide (lo am m s i ≤ rd sh (i : Int)) && decide (rd sh (i : Int) ≤ PFnShares.hi am m s i)) = false := by
      rw [Bool.and_eq_false_iff]
      by_cases h1 : lo am m s i ≤ rd sh (i : Int)
      · exact .inr (decide_eq_false fun h2 => hf ⟨h1, h2⟩)
      · exact .inl (decide_eq_false h1)
    show ((some (decide (lo am m s i ≤ rd sh (i : Int)) && decide (rd sh (i : Int) ≤ PFnShares.hi am m s i))).bind _) = _
    rw [e]; rfl
  · rw [if_neg hs] at hf
    simp only [impl_CheckShares.l0]
    rw [if_pos (by omega), if_pos (by omega), if_pos (by omega), if_neg hs, if_pos (by omega), p_within]
    have e : (decide (0 ≤ rd sh (i : Int)) && decide (rd sh (i : Int) ≤ 0)) = false := by
      rw [Bool.and_eq_false_iff]
      by_cases h1 : 0 ≤ rd sh (i : Int)
      · exact .inr (decide_eq_false fun h2 => hf ⟨h1, h2⟩)
      · exact .inl (decide_eq_false h1)
    rw [e]; rfl
theorem cs_all {am sh : List Int} {m s : Int} (hl : sh.length ≤ 100) (he : sh.length = am.length) : ∀ d i : Nat, i + d = am.length → (∀ j : Nat, i ≤ j → j < am.length → Fit am sh m s j) → Ev (fun f => impl_CheckShares.l0 f m sh s am (am.length : Int) (i : Int)) (wsum sh sh.length == m, 0)
  | 0, i, hi, _ => by
    obtain rfl : i = am.length := by omega
    exact cs_end hl he
  | d + 1, i, hi, h => cs_step hl he (by omega) (h i (Nat.le_refl _) (by omega)) (cs_all hl he d (i + 1) (by omega) (fun j h1 h2 => h j (by omega) h2))
open Classical in
theorem cs_none {am sh : List Int} {m s : Int} (hl : sh.length ≤ 100) (he : sh.length = am.length) (hne : wsum sh sh.length ≠ m) : ∀ d i : Nat, i + d = am.length → Ev (fun f => impl_CheckShares.l0 f m sh s am (am.length : Int) (i : Int)) (false, 0)
  | 0, i, hi => by
    obtain rfl : i = am.length := by omega
    have := cs_end (s := s) (m := m) hl he
    rw [show (wsum sh sh.length == m) = false by simp [hne]] at this
    exact this
  | d + 1, i, hi => by
    by_cases hf : Fit am sh m s i
    · exact cs_step hl he (by omega) hf (cs_none hl he hne d (i + 1) (by omega))
    · exact cs_fail hl he (by omega) hf
theorem cs_of {am sh : List Int} {m : Int} (hl : am.length ≤ 100) (he : sh.length = am.length) (hc : codeOf am m = 0) {r : Bool × Int} (h : Ev (fun f => impl_CheckShares.l0 f m sh (wsum am am.length) am (am.length : Int) ((0 : Nat) : Int)) r) : Ev (fun k => impl_CheckShares.f k am m sh) r := by
  unfold impl_CheckShares.f
  refine Ev.bind (code_i am m (by omega)) (Ev.congr (f := fun k => (impl_total.f k am).bind fun t116 => (impl_CheckShares.l0 k m sh t116 am (am.length : Int) 0)) (fun k => ?_) (Ev.bind (total am (by omega)) h))
  rw [if_pos hc, if_pos (by omega)]
end Go.Proofs.Ytgdkimdikalmkaa.PFnShares
