/- Shares sum to the money, and no share is off by 1 or more; awards are no more than claims, sum to what there is, and those that are cut are equal but for 1; what is checked is what is told: the plain law. No condition. -/
import Derived.Test.YtgdkimdikalmkaaFS3
namespace Go.Proofs.Ytgdkimdikalmkaa.PFnShares
open Go.RowKit Go.Proofs.YtgdkimdikalmkaaW.PrintWords Go.Proofs.YtgdkimdikalmkaaW.PrintLast Go.Proofs.YtgdkimdikalmkaaW.PrintMore
set_option linter.unusedSimpArgs false
set_option linter.unusedVariables false

theorem ev_rw {f g : Nat → Option Bool} (h : ∀ k, f k = g k) (hg : Ev g true) : Ev f true := Ev.congr h hg
theorem wsum_set {l : List Int} (hl : l.length ≤ 100) (h : ∀ i : Nat, i < l.length → 0 ≤ rd l (i : Int) ∧ rd l (i : Int) ≤ 3000000) {j : Nat} (hj : j < l.length) : wsum (l.set j (wrap64 (rd l (j : Int) + 1))) (l.set j (wrap64 (rd l (j : Int) + 1))).length = wsum l l.length + 1 := by
  have e : wrap64 (rd l (j : Int) + 1) = rd l (j : Int) + 1 := by have := h j hj; unfold wrap64; omega
  rw [e, sum_whole (c := 3000001) (by omega) (by rw [List.length_set]; exact hl) (fun i hi => ?_), sum_whole (c := 3000000) (by omega) hl h, sum_set l j _ hj]
  · omega
  · rw [List.length_set] at hi
    by_cases he : i = j
    · subst he
      rw [rd_set_same hi]
      have := h i hi
      omega
    · rw [rd_set_other he]
      have := h i hi
      omega
section
variable {am : List Int} {m : Int}
/-! ### awards -/
theorem l4_ok (h : Few am m) {aw : List Int} (ha : Awd am aw m) {i : Nat} (hi : i < am.length) (S x27 : Int) (hn : Ev (fun f => laws_FnShares.l3 f am m S aw x27 ((i + 1 : Nat) : Int)) true) : ∀ d k : Nat, k + d = am.length → Ev (fun f => laws_FnShares.l4 f am m S aw x27 (i : Int) (k : Int)) true
  | 0, k, hk => by
    have hl := h.len
    have he := ha.len
    refine Ev.step (fun f => ?_) hn
    simp only [laws_FnShares.l4]
    rw [if_neg (by omega), wnat (by omega)]
  | d + 1, k, hk => by
    have hl := h.len
    have he := ha.len
    have h1 := ha.each k (by omega)
    have h2 := h.each k (by omega)
    have e : wrap64 (rd aw (k : Int) + 1) = rd aw (k : Int) + 1 := by unfold wrap64; omega
    refine Ev.step (fun f => ?_) (l4_ok h ha hi S x27 hn d (k + 1) (by omega))
    simp only [laws_FnShares.l4]
    rw [if_pos (by omega), if_pos (by omega), if_pos (by omega), wnat (by omega), e]
    by_cases hc : rd aw (k : Int) < rd am (k : Int)
    · have := ha.cut i k hi (by omega) hc
      rw [if_pos hc, if_pos (by omega), if_pos (by omega), if_neg (by omega)]
    · rw [if_neg hc]
theorem l3_ok (h : Few am m) {aw : List Int} (ha : Awd am aw m) : ∀ d i : Nat, i + d = am.length → Ev (fun f => laws_FnShares.l3 f am m (wsum am am.length) aw (wsum aw i) (i : Int)) true
  | 0, i, hi => by
    have hl := h.len
    have he := ha.len
    obtain rfl : i = am.length := by omega
    have hs := ha.sum
    rw [he] at hs
    by_cases h0 : aw.length = 0
    · refine Ev.step (f := fun _ => some true) (fun f => ?_) (Ev.now _)
      simp only [laws_FnShares.l3]
      rw [if_neg (by omega), if_pos hs, if_pos (by omega)]
    · have hbd : ∀ i : Nat, i < aw.length → 0 ≤ rd aw (i : Int) ∧ rd aw (i : Int) ≤ 3000000 := fun i hi => by
        have h1 := ha.each i (by omega)
        have h2 := h.each i (by omega)
        omega
      have hw := wsum_set (l := aw) (by omega) hbd (j := 0) (by omega)
      have hno := ca_no (aw := aw.set 0 (wrap64 (rd aw ((0 : Nat) : Int) + 1))) h.ok (by rw [List.length_set]; exact he) (by rw [hw, ha.sum]; omega)
      refine Ev.step (f := fun k => (impl_CheckAwards.f k am m (aw.set 0 (wrap64 (rd aw ((0 : Nat) : Int) + 1)))).bind fun bt295 => (if bt295.2 = 0 then (some (!bt295.1)) else (some false))) (fun f => ?_) (Ev.bind hno (Ev.now _))
      simp only [laws_FnShares.l3]
      rw [if_neg (by omega), if_pos hs, if_neg (by omega)]
      simp only [Option.bind_some, List.nil_append, List.length_nil, Nat.zero_add]
      rw [if_pos (by omega), if_pos (by omega)]
      rfl
  | d + 1, i, hi => by
    have hl := h.len
    have he := ha.len
    have h1 := ha.each i (by omega)
    have hw : wsum aw (i + 1) = wrap64 (wsum aw i + rd aw (i : Int)) := rfl
    have h4 := l4_ok h ha (show i < am.length by omega) (wsum am am.length) (wsum aw (i + 1)) (l3_ok h ha d (i + 1) (by omega)) am.length 0 (by omega)
    refine Ev.step (f := fun k => laws_FnShares.j9 k am m (wsum am am.length) aw (wsum aw i) (i : Int) false) (fun f => ?_) (Ev.step (fun f => ?_) h4)
    · simp only [laws_FnShares.l3]
      rw [if_pos (by omega), if_pos (by omega), if_neg (by omega), if_pos (by omega), decide_eq_false (by omega)]
    · simp only [laws_FnShares.j9]
      rw [if_neg (by decide), if_pos (by omega), if_pos (by omega), ← hw]
      rfl
theorem j6_ok (h : Few am m) : Ev (fun f => laws_FnShares.j6 f am m (wsum am am.length)) true := by
  have hl := h.len
  obtain ⟨aw, ha, hi, hs⟩ := awd_ev h.ok
  have he := ha.len
  have hy := ca_yes h.ok ha
  have h7 : Ev (fun k => laws_FnShares.j7 k am m (wsum am am.length) aw false) true := by
    refine Ev.step (fun f => ?_) (l3_ok h ha am.length 0 (by omega))
    simp only [laws_FnShares.j7]
    rw [if_neg (by decide)]
    rfl
  refine Ev.step (f := fun k => (impl_EqualAwards.f k am m).bind fun bt268 => ((spec_EqualAwards.f k am m).bind fun bt272 => ((impl_CheckAwards.f k am m bt272.1).bind fun bt276 => (if bt268.2 = bt272.2 then (if bt268.2 = 0 then ((spec_A2Same.f k bt268.1 bt272.1).bind fun t278 => (if t278 = true then (if bt276.2 = 0 then (if bt276.1 = true then (laws_FnShares.j7 k am m (wsum am am.length) bt272.1 ((bt272.1.length : Int) != (am.length : Int))) else (laws_FnShares.j7 k am m (wsum am am.length) bt272.1 true)) else (laws_FnShares.j7 k am m (wsum am am.length) bt272.1 true)) else (laws_FnShares.j7 k am m (wsum am am.length) bt272.1 true))) else (laws_FnShares.j7 k am m (wsum am am.length) bt272.1 true)) else (laws_FnShares.j7 k am m (wsum am am.length) bt272.1 true)))))
    (fun f => by simp only [laws_FnShares.j6]) (Ev.bind hi (Ev.bind hs (Ev.bind hy (Ev.congr (f := fun k => (spec_A2Same.f k aw aw).bind fun t278 => (if t278 = true then (laws_FnShares.j7 k am m (wsum am am.length) aw false) else (laws_FnShares.j7 k am m (wsum am am.length) aw true))) (fun k => ?_) (Ev.bind (same aw (by omega)) (Ev.congr (fun k => ?_) h7))))))
  · have eb : ((aw.length : Int) != (am.length : Int)) = false := by rw [he]; simp
    simp only [if_true, eb]
  · rw [if_pos rfl]

/-! ### shares -/
theorem l2_ok (h : Few am m) {due : List Int} {S : Int} (hd : Due am due m S) {x1 : List Int} {i : Nat} (hi : i < am.length) (x15 : Int) (hn : Ev (fun f => laws_FnShares.l1 f x1 am m S due x15 ((i + 1 : Nat) : Int)) true) : ∀ d k : Nat, k + d = am.length → Ev (fun f => laws_FnShares.l2 f x1 am m S due x15 (i : Int) (k : Int)) true
  | 0, k, hk => by
    have hl := h.len
    have he := hd.len
    refine Ev.step (fun f => ?_) hn
    simp only [laws_FnShares.l2]
    rw [if_neg (by omega), wnat (by omega)]
  | d + 1, k, hk => by
    have hl := h.len
    have he := hd.len
    refine Ev.step (fun f => ?_) (l2_ok h hd hi x15 hn d (k + 1) (by omega))
    simp only [laws_FnShares.l2]
    rw [if_pos (by omega), if_pos (by omega), if_pos (by omega), if_pos (by omega), if_pos (by omega), wnat (by omega)]
    by_cases hc : rd am (i : Int) > rd am (k : Int)
    · have := hd.mono i k hi (by omega) hc
      rw [if_pos hc, if_pos (by omega), if_neg (by omega)]
    · rw [if_neg hc]
theorem j4_ok (h : Few am m) {due : List Int} {S : Int} (hd : Due am due m S) {x1 : List Int} {i : Nat} (hi : i < am.length) (hn : Ev (fun f => laws_FnShares.l1 f x1 am m S due (wsum due (i + 1)) ((i + 1 : Nat) : Int)) true) : Ev (fun f => laws_FnShares.j4 f x1 am m S due (wsum due i) (i : Int) false) true := by
  have he := hd.len
  have hw : wsum due (i + 1) = wrap64 (wsum due i + rd due (i : Int)) := rfl
  refine Ev.step (fun f => ?_) (l2_ok h hd hi (wsum due (i + 1)) hn am.length 0 (by omega))
  simp only [laws_FnShares.j4]
  rw [if_neg (by decide), if_pos (by omega), if_pos (by omega), ← hw]
  rfl
theorem num1 {p q S : Int} (h0 : 0 ≤ p) (h1 : p ≤ 2040000) (hS : 0 < S) (hS1 : S ≤ 7000000) (q0 : p - S < q) (q1 : q < p + S) : ¬ wrap64 q ≤ wrap64 (wrap64 p - S) ∧ ¬ wrap64 q ≥ wrap64 (wrap64 p + S) := by
  have e1 : wrap64 q = q := by unfold wrap64; omega
  have e2 : wrap64 p = p := by unfold wrap64; omega
  have e3 : wrap64 (p - S) = p - S := by unfold wrap64; omega
  have e4 : wrap64 (p + S) = p + S := by unfold wrap64; omega
  rw [e1, e2, e3, e4]
  omega
theorem l1_end (h : Few am m) (hc : codeOf am m = 0) {due x1 : List Int} (hb : ∀ x ∈ x1, (Lit.int .u8 x).wf = true) (hd : Due am due m (wsum am am.length)) : Ev (fun f => laws_FnShares.l1 f x1 am m (wsum am am.length) due (wsum due am.length) ((am.length : Nat) : Int)) true := by
  have hl := h.len
  have he := hd.len
  have hs := hd.sum
  rw [he] at hs
  have h6 := j6_ok h
  by_cases h0 : due.length = 0
  · refine Ev.step (fun f => ?_) h6
    simp only [laws_FnShares.l1]
    rw [if_neg (by omega), if_pos hs, if_neg (by omega)]
  · obtain ⟨v, hv, v0, v1, v2⟩ := at_some hb 2 (due.length : Int) (by omega) (by omega)
    obtain ⟨j, rfl⟩ := Int.eq_ofNat_of_zero_le v0
    have hj : j < due.length := by omega
    have hw := wsum_set (l := due) (by omega) (fun i hi => hd.bd i (by omega)) hj
    have hlen : (due.set j (wrap64 (rd due (j : Int) + 1))).length = am.length := by rw [List.length_set]; exact he
    have hno := cs_of (sh := due.set j (wrap64 (rd due (j : Int) + 1))) (m := m) (by omega) hlen hc (cs_none (s := wsum am am.length) (by omega) hlen (by rw [hw, hd.sum]; omega) am.length 0 (by omega))
    refine Ev.step (f := fun k => (impl_CheckShares.f k am m (due.set j (wrap64 (rd due (j : Int) + 1)))).bind fun bt266 => (if bt266.2 = 0 then (if bt266.1 = true then (some false) else (laws_FnShares.j6 k am m (wsum am am.length))) else (some false))) (fun f => ?_) (Ev.bind hno (Ev.congr (fun k => ?_) h6))
    · simp only [laws_FnShares.l1]
      rw [if_neg (by omega), if_pos hs, if_pos (by omega)]
      simp only [Option.bind_some, List.nil_append, List.length_nil, Nat.zero_add]
      rw [if_pos (by omega), hv]
      simp only [Option.bind_some, Int.toNat_natCast]
      rw [if_pos (by omega), if_pos (by omega)]
    · simp only [Bool.false_eq_true, if_true, if_false]
theorem l1_ok (h : Few am m) (hc : codeOf am m = 0) {due x1 : List Int} (hb : ∀ x ∈ x1, (Lit.int .u8 x).wf = true) (hd : Due am due m (wsum am am.length)) : ∀ d i : Nat, i + d = am.length → Ev (fun f => laws_FnShares.l1 f x1 am m (wsum am am.length) due (wsum due i) (i : Int)) true
  | 0, i, hi => by
    obtain rfl : i = am.length := by omega
    exact l1_end h hc hb hd
  | d + 1, i, hi => by
    have hl := h.len
    have he := hd.len
    have hlt : i < am.length := by omega
    have ha := h.each i hlt
    have hp := mul_small h.m0 h.m1 ha.1 ha.2
    obtain ⟨s0, s1, -⟩ := h.sum
    refine Ev.step (fun f => ?_) (j4_ok h hd hlt (l1_ok h hc hb hd d (i + 1) (by omega)))
    simp only [laws_FnShares.l1]
    rw [if_pos (by omega)]
    by_cases hS : wsum am am.length > 0
    · have hn := hd.near hS i hlt
      obtain ⟨n1, n2⟩ := num1 hp.1 hp.2 hS s1 hn.1 hn.2
      rw [if_pos hS, if_pos (by omega), if_pos (by omega), if_neg n1, if_neg n2, if_neg (by omega)]
    · have hz := hd.zero (by omega) i hlt
      rw [if_neg hS, if_pos (by omega), if_pos (by omega), hz]
      rfl
theorem j1_ok (h : Few am m) (hc : codeOf am m = 0) {due x1 : List Int} (hb : ∀ x ∈ x1, (Lit.int .u8 x).wf = true) (hd : Due am due m (wsum am am.length)) : Ev (fun f => laws_FnShares.j1 f x1 am m (wsum am am.length) 0 due false) true := by
  have hl := h.len
  have he := hd.len
  have h2 : Ev (fun k => laws_FnShares.j2 k x1 am m (wsum am am.length) due 0 false) true := by
    refine Ev.step (fun f => ?_) (l1_ok h hc hb hd am.length 0 (by omega))
    simp only [laws_FnShares.j2]
    rw [if_neg (by decide)]
    rfl
  have hy := cs_of (sh := due) (m := m) (by omega) he hc (cs_all (s := wsum am am.length) (by omega) he am.length 0 (by omega) (fun j _ hj => hd.fit j hj))
  have ey : (wsum due due.length == m) = true := by rw [hd.sum]; simp
  rw [ey] at hy
  refine Ev.step (f := fun k => (impl_CheckShares.f k am m due).bind fun bt244 => (if bt244.2 = 0 then (if bt244.1 = true then (laws_FnShares.j2 k x1 am m (wsum am am.length) due 0 ((due.length : Int) != (am.length : Int))) else (laws_FnShares.j2 k x1 am m (wsum am am.length) due 0 true)) else (laws_FnShares.j2 k x1 am m (wsum am am.length) due 0 true))) (fun f => ?_) (Ev.bind hy (Ev.congr (fun k => ?_) h2))
  · simp only [laws_FnShares.j1]
    rw [if_neg (by decide)]
    simp only [if_true]
  · have eb : ((due.length : Int) != (am.length : Int)) = false := by rw [he]; simp
    simp only [if_true, eb]
theorem l0_end (h : Few am m) {x1 : List Int} (hb : ∀ x ∈ x1, (Lit.int .u8 x).wf = true) : Ev (fun f => laws_FnShares.l0 f x1 am m (wsum am am.length) ((am.length : Nat) : Int)) true := by
  have hl := h.len
  obtain ⟨s0, s1, -⟩ := h.sum
  have hi : impl_SharesOf.f am m = some (shRes am m) := by unfold impl_SharesOf.f; rw [if_pos (by omega)]
  have hs : spec_SharesOf.f am m = some (shRes am m) := by unfold spec_SharesOf.f; rw [if_pos (by omega)]
  have hcase : codeOf am m = 0 ∨ (codeOf am m = 4 ∧ wsum am am.length = 0 ∧ 0 < m) := by
    have := h.m0
    unfold codeOf
    rw [if_pos h.ok]
    by_cases hS : wsum am am.length = 0
    · rw [if_pos hS]
      by_cases hm : m = 0
      · rw [if_pos hm]; exact .inl rfl
      · rw [if_neg hm]; exact .inr ⟨rfl, hS, by omega⟩
    · rw [if_neg hS]; exact .inl rfl
  rcases hcase with hc | ⟨hc, hS, hm⟩
  · obtain ⟨due, hr, hd⟩ := due_ex h hc
    rw [hr] at hi hs
    have he := hd.len
    have h1 := j1_ok h hc hb hd
    refine Ev.step (f := fun k => (spec_A2Same.f k due due).bind fun t243 => (if t243 = true then (laws_FnShares.j1 k x1 am m (wsum am am.length) 0 due false) else (laws_FnShares.j1 k x1 am m (wsum am am.length) 0 due true))) (fun f => ?_) (Ev.bind (same due (by omega)) (Ev.congr (fun k => if_pos rfl) h1))
    simp only [laws_FnShares.l0]
    rw [if_neg (by omega), hi, hs]
    simp only [Option.bind_some, if_true]
    by_cases hS : wsum am am.length = 0
    · have hm : m = 0 := by
        unfold codeOf at hc
        rw [if_pos h.ok, if_pos hS] at hc
        split at hc
        · assumption
        · cases hc
      have e : (((0 : Int) == 4) != decide (m > 0)) = false := by rw [hm]; decide
      rw [if_pos hS, e]
    · have e : (((0 : Int) == 4) != false) = false := by decide
      rw [if_neg hS, e]
  · have hr : shRes am m = ([], 4) := by
      have hcp : PAll.codeOf am m = 4 := by rw [← codeOf_all]; exact hc
      unfold shRes
      rw [if_neg (by omega), hcp]
    rw [hr] at hi hs
    have h6 := j6_ok h
    have h1 : Ev (fun k => laws_FnShares.j1 k x1 am m (wsum am am.length) 4 [] false) true := by
      refine Ev.step (fun f => ?_) h6
      simp only [laws_FnShares.j1]
      rw [if_neg (by decide), if_neg (by decide)]
    refine Ev.step (f := fun k => (spec_A2Same.f k [] []).bind fun t243 => (if t243 = true then (laws_FnShares.j1 k x1 am m (wsum am am.length) 4 [] false) else (laws_FnShares.j1 k x1 am m (wsum am am.length) 4 [] true))) (fun f => ?_) (Ev.bind (same [] (by simp)) (Ev.congr (fun k => if_pos rfl) h1))
    have e : (((4 : Int) == 4) != decide (m > 0)) = false := by rw [decide_eq_true hm]; decide
    simp only [laws_FnShares.l0]
    rw [if_neg (by omega), hi, hs]
    simp only [Option.bind_some, if_true]
    rw [if_pos hS, e]
theorem l0_ok (h : Few am m) {x1 : List Int} (hb : ∀ x ∈ x1, (Lit.int .u8 x).wf = true) : ∀ d i : Nat, i + d = am.length → Ev (fun f => laws_FnShares.l0 f x1 am m (wsum am i) (i : Int)) true
  | 0, i, hi => by
    obtain rfl : i = am.length := by omega
    exact l0_end h hb
  | d + 1, i, hi => by
    have hl := h.len
    refine Ev.step (fun f => ?_) (l0_ok h hb d (i + 1) (by omega))
    simp only [laws_FnShares.l0]
    rw [if_pos (by omega), if_pos (by omega), wnat (by omega)]
    rfl
end
end Go.Proofs.Ytgdkimdikalmkaa.PFnShares
