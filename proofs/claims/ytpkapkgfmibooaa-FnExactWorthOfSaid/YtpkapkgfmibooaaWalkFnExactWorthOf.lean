/- The program and the reference say the same of what a plan is worth: the plain law. No condition. -/
import Derived.Test.YtpkapkgfmibooaaPlanFnExactWorthOf
namespace Go.Proofs.Ytpkapkgfmibooaa.PFnExactWorthOf
open Go.RowKit Go.Proofs.YtpkapkgfmibooaaW.PrintWords Go.Proofs.YtpkapkgfmibooaaW.PrintLast Go.Proofs.YtpkapkgfmibooaaW.PrintMore
set_option linter.unusedSimpArgs false
set_option linter.unusedVariables false

def wv (x : S76) (d : Int) : Int := if inB (wrap64 (d - wrap64 x.f1)) 0 (wrap64 x.f2) = true then mx 0 (wrap64 ((wrap64 x.f0) - (wrap64 ((wrap64 x.f3) * (wrap64 (d - (wrap64 x.f1))))))) else 0
theorem worth_i (x : S76) (d : Int) : impl_Plot_worth.f x.f0 x.f1 x.f2 x.f3 d = some (wv x d) := by
  unfold impl_Plot_worth.f wv inB
  rw [p_within]
  simp only [Option.bind_some]
  split <;> rfl
theorem worth_s (x : S76) (d : Int) : spec_l07Worth.f x.f0 x.f1 x.f2 x.f3 d = some (wv x d) := by
  unfold spec_l07Worth.f wv inB
  rw [p_in]
  simp only [Option.bind_some]
  split
  · unfold spec_l00Max.f mx
    split <;> split <;> first | rfl | (exfalso; omega) | (simp only [Option.bind_some, Option.some.injEq]; omega)
  · rfl

/-- What a plot is worth by a plan. -/
def wAt (xs : List S76) (p : List Int) (i : Nat) : Int := if rd p (i : Int) ≥ 0 then wv (rd_T76 xs (i : Int)) (rd p (i : Int)) else 0
def wTo (xs : List S76) (p : List Int) (n : Nat) : List Int := (List.range xs.length).map fun j => if j < n then wAt xs p j else 0
theorem wTo_len (xs : List S76) (p : List Int) (n : Nat) : (wTo xs p n).length = xs.length := by simp [wTo]
theorem wTo_get (xs : List S76) (p : List Int) (n : Nat) {j : Nat} (h : j < (wTo xs p n).length) : (wTo xs p n)[j] = if j < n then wAt xs p j else 0 := by simp [wTo]
theorem wTo_set (xs : List S76) (p : List Int) {n : Nat} (hn : n < xs.length) : (wTo xs p n).set n (wAt xs p n) = wTo xs p (n + 1) := by
  refine List.ext_getElem (by rw [List.length_set, wTo_len, wTo_len]) fun j h1 h2 => ?_
  rw [List.getElem_set, wTo_get]
  split
  · rename_i e
    subst e
    rw [wTo_get, if_pos (by omega)]
  · rename_i e
    rw [wTo_get]
    by_cases h : j < n
    · rw [if_pos h, if_pos (by omega)]
    · rw [if_neg h, if_neg (by omega)]
theorem wTo_same (xs : List S76) (p : List Int) {n : Nat} (h0 : wAt xs p n = 0) : wTo xs p (n + 1) = wTo xs p n := by
  refine List.ext_getElem (by rw [wTo_len, wTo_len]) fun j h1 h2 => ?_
  rw [wTo_get, wTo_get]
  by_cases e : j = n
  · subst e
    rw [if_pos (by omega), if_neg (by omega), h0]
  · by_cases h : j < n
    · rw [if_pos h, if_pos (by omega)]
    · rw [if_neg h, if_neg (by omega)]
theorem wTo_zero (xs : List S76) (p : List Int) : List.replicate xs.length 0 = wTo xs p 0 := by
  refine List.ext_getElem (by rw [List.length_replicate, wTo_len]) fun j h1 h2 => ?_
  rw [wTo_get, if_neg (by omega), List.getElem_replicate]
def sTo (xs : List S76) (p : List Int) : Nat → Int
  | 0 => 0
  | n + 1 => wrap64 (sTo xs p n + wAt xs p n)
theorem sTo_in (xs : List S76) (p : List Int) : ∀ n, -9223372036854775808 ≤ sTo xs p n ∧ sTo xs p n ≤ 9223372036854775807
  | 0 => by simp [sTo]
  | n + 1 => by
    simp only [sTo]
    unfold wrap64
    omega
theorem sTo_same (xs : List S76) (p : List Int) {n : Nat} (h0 : wAt xs p n = 0) : sTo xs p (n + 1) = sTo xs p n := by
  have := sTo_in xs p n
  simp only [sTo]
  rw [h0]
  unfold wrap64
  omega
theorem worths_ev (xs : List S76) (p : List Int) (hl : p.length = xs.length) (hn : xs.length ≤ 1048576) : ∀ d i : Nat, i + d = p.length → Ev (fun k => impl_worths.l0 k xs (wTo xs p i) p (p.length : Int) (i : Int)) (wTo xs p p.length) := by
  intro d
  induction d with
  | zero =>
    intro i hi
    obtain rfl : i = p.length := by omega
    exact Ev.step (fun k => by simp only [impl_worths.l0]; rw [if_neg (by omega)]) (ev_eq fun k => rfl)
  | succ d ih =>
    intro i hi
    have wi : wrap64 ((i : Int) + 1) = ((i + 1 : Nat) : Int) := by unfold wrap64; omega
    have h1 := ih (i + 1) (by omega)
    by_cases h0 : rd p (i : Int) ≥ 0
    · have e : wv (rd_T76 xs (i : Int)) (rd p (i : Int)) = wAt xs p i := by unfold wAt; rw [if_pos h0]
      refine Ev.step (fun k => by simp only [impl_worths.l0]; rw [if_pos (by omega), if_pos (by omega), if_pos (by omega), if_pos h0, if_pos (by omega), worth_i, Option.bind_some, if_pos (by rw [wTo_len]; omega), wi, e, Int.toNat_natCast, wTo_set xs p (by omega)]) h1
    · have e : wAt xs p i = 0 := by unfold wAt; rw [if_neg h0]
      rw [wTo_same xs p e] at h1
      refine Ev.step (fun k => by simp only [impl_worths.l0]; rw [if_pos (by omega), if_pos (by omega), if_pos (by omega), if_neg h0, wi]) h1
theorem worths (xs : List S76) (p : List Int) (hl : p.length = xs.length) (hn : xs.length ≤ 1048576) : Ev (fun k => impl_worths.f k xs p) (wTo xs p p.length) := by
  unfold impl_worths.f
  simp only [show (0 : Int) ≤ (xs.length : Int) by omega, if_true, Int.toNat_natCast, show xs.length ≤ 35184372088832 by omega]
  rw [wTo_zero xs p]
  exact worths_ev xs p hl hn p.length 0 (by omega)
theorem total_ev (xs : List S76) (p : List Int) (hl : p.length = xs.length) (hn : xs.length ≤ 1048576) : ∀ d i : Nat, i + d = p.length → Ev (fun k => impl_total.l0 k (sTo xs p i) (wTo xs p p.length) ((wTo xs p p.length).length : Int) (i : Int)) (sTo xs p p.length) := by
  have hw := wTo_len xs p p.length
  intro d
  induction d with
  | zero =>
    intro i hi
    obtain rfl : i = p.length := by omega
    exact Ev.step (fun k => by simp only [impl_total.l0]; rw [if_neg (by omega)]) (ev_eq fun k => rfl)
  | succ d ih =>
    intro i hi
    have wi : wrap64 ((i : Int) + 1) = ((i + 1 : Nat) : Int) := by unfold wrap64; omega
    have h1 := ih (i + 1) (by omega)
    have e : rd (wTo xs p p.length) (i : Int) = wAt xs p i := by
      unfold rd
      rw [Int.toNat_natCast, List.getD_eq_getElem?_getD, List.getElem?_eq_getElem (show i < (wTo xs p p.length).length by omega), Option.getD_some, wTo_get, if_pos (by omega)]
    exact Ev.step (fun k => by simp only [impl_total.l0]; rw [if_pos (by omega), if_pos (by omega), if_pos (by omega), wi, e]; rfl) h1
theorem sum_ev (xs : List S76) (p : List Int) (hl : p.length = xs.length) (hn : xs.length ≤ 1048576) : ∀ d i : Nat, i + d = p.length → Ev (fun k => spec_l07Sum.l0 k xs p (sTo xs p i) (i : Int)) (sTo xs p p.length) := by
  intro d
  induction d with
  | zero =>
    intro i hi
    obtain rfl : i = p.length := by omega
    exact Ev.step (fun k => by simp only [spec_l07Sum.l0]; rw [if_neg (by omega)]) (ev_eq fun k => rfl)
  | succ d ih =>
    intro i hi
    have wi : wrap64 ((i : Int) + 1) = ((i + 1 : Nat) : Int) := by unfold wrap64; omega
    have h1 := ih (i + 1) (by omega)
    by_cases h0 : rd p (i : Int) ≥ 0
    · have e : wrap64 (sTo xs p i + wv (rd_T76 xs (i : Int)) (rd p (i : Int))) = sTo xs p (i + 1) := by
        simp only [sTo]
        unfold wAt
        rw [if_pos h0]
      exact Ev.step (fun k => by simp only [spec_l07Sum.l0]; rw [if_pos (by omega), if_pos (by omega), if_pos h0, if_pos (by omega), worth_s, Option.bind_some, wi, e]) h1
    · have e : wAt xs p i = 0 := by unfold wAt; rw [if_neg h0]
      rw [sTo_same xs p e] at h1
      exact Ev.step (fun k => by simp only [spec_l07Sum.l0]; rw [if_pos (by omega), if_pos (by omega), if_neg h0, wi]) h1
theorem both (xs : List S76) (hn : xs.length ≤ 1048576) (h : Int) (p : List Int) (hp : p.length ≤ 1048576) : ∃ r, Ev (fun k => spec_WorthOf.f k xs h p) r ∧ Ev (fun k => impl_WorthOf.f k xs h p) r := by
  unfold spec_WorthOf.f impl_WorthOf.f
  cases hv : (okAll xs && VP.restB h xs.length p)
  · refine ⟨(0, 1), ?_, ?_⟩
    · refine Ev.bind (plan_s xs h p (by omega) hp) (ev_eq fun k => ?_)
      rw [hv]; rfl
    · refine Ev.bind (plan_i xs h p (by omega)) (ev_eq fun k => ?_)
      rw [hv]; rfl
  · have hl : p.length = xs.length := by
      rw [Bool.and_eq_true] at hv
      have h2 := hv.2
      unfold VP.restB at h2
      rw [Bool.and_eq_true, Bool.and_eq_true] at h2
      exact of_decide_eq_true h2.2.1
    refine ⟨(sTo xs p p.length, 0), ?_, ?_⟩
    · refine Ev.bind (plan_s xs h p (by omega) hp) ?_
      rw [hv]
      simp only [if_true]
      unfold spec_l07Sum.f
      exact Ev.bind (sum_ev xs p hl hn p.length 0 (by omega)) (ev_eq fun k => rfl)
    · refine Ev.bind (plan_i xs h p (by omega)) ?_
      rw [hv]
      simp only [if_true]
      unfold impl_total.f
      exact Ev.bind (worths xs p hl hn) (Ev.bind (total_ev xs p hl hn p.length 0 (by omega)) (ev_eq fun k => rfl))

theorem pure (xs : List S78) (hn : xs.length ≤ maxLen) (h : Int) (p : List Int) : Ev (fun k => laws_FnExactWorthOf.f k xs h p) true := by
  have hn : xs.length ≤ 9223372036854775807 := by unfold maxLen at hn; omega
  unfold laws_FnExactWorthOf.f
  refine ev_if (fun _ => ev_eq fun _ => rfl) (fun hp => ?_)
  have hp : p.length ≤ 1048576 := by omega
  refine sized_law xs hn (fun hs => ?_)
  have hm : (xs.map conv).length ≤ 9223372036854775807 := by rw [List.length_map]; exact hn
  obtain ⟨r, hr1, hr2⟩ := both (xs.map conv) (by rw [List.length_map]; exact hs) h p hp
  refine Ev.bind (toPlotS xs hs) (Ev.bind (toInts p hp) (Ev.bind hr1 (Ev.bind (toPlotS xs hs) (Ev.bind (toInts p hp) (Ev.bind hr2 ?_)))))
  simp only [if_true, bne_self_eq_false]
  refine Ev.step (f := fun k => (laws_toPlotS.f k xs).bind fun t => (laws_eqPlotS.f k (xs.map conv) t).bind fun u => (if u = true then ((laws_toInt64S.f k p).bind fun t2 => (laws_eqInt64S.f k p t2).bind fun u2 => (if u2 = true then (some true) else (some false))) else (some false))) (fun k => by simp only [laws_FnExactWorthOf.j0, Bool.false_eq_true, if_false]) ?_
  refine Ev.bind (toPlotS xs hs) (Ev.bind (eqPlotS _ hm) ?_)
  simp only [if_true]
  exact Ev.bind (toInts p hp) (Ev.bind (eqInts p (by omega)) (ev_eq fun _ => rfl))

theorem walk (A : Option Addr) (cap : Nat) (xs : List S78) (hc : xs.length ≤ cap) (hm : xs.length ≤ maxLen) {W : World} (kc : Kd.C k78 W A xs.length xs) (h : Int) (_ : (Lit.int .i64 h).wf = true)
    (A2 : Option Addr) (c2 : Nat) (p : List Int) (hc2 : p.length ≤ c2) (_ : p.length ≤ maxLen) (_ : ∀ x ∈ p, (Lit.int .i64 x).wf = true) (kc2 : Kd.C (Kd.int .i64) W A2 p.length p) :
    Calls Try.prog 8 #[.slice A xs.length cap, .int .i64 h, .slice A2 p.length c2] W fun e w' => e = .returned (.bool true) ∧ Below W.heap.size W w' := by
  obtain ⟨k, hk⟩ := (pure xs hm h p).rounds
  exact laws_FnExactWorthOf.calls k A cap xs h A2 c2 p true W kc hc kc2 hc2 hk
end Go.Proofs.Ytpkapkgfmibooaa.PFnExactWorthOf
