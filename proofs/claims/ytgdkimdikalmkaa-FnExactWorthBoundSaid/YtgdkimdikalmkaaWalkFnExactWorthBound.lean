/- The program and the reference say the same of the bound of what plots are worth: the plain law. No condition. -/
import Derived.Test.YtgdkimdikalmkaaPlotsFnExactWorthBound
namespace Go.Proofs.Ytgdkimdikalmkaa.PFnExactWorthBound
open Go.RowKit Go.Proofs.YtgdkimdikalmkaaW.PrintWords Go.Proofs.YtgdkimdikalmkaaW.PrintLast Go.Proofs.YtgdkimdikalmkaaW.PrintMore
set_option linter.unusedSimpArgs false
set_option linter.unusedVariables false

theorem asked (xs : List S60) (hn : xs.length ≤ 9223372036854775807) (b : Bool) : Ev (fun k => spec_l07Asked.f k xs b) (if okAll xs = true then (if b = true then 0 else 2) else 1) := by
  unfold spec_l07Asked.f
  refine Ev.bind (l07Ok xs hn) (ev_eq fun k => ?_)
  cases okAll xs <;> cases b <;> rfl

theorem plotsCode (xs : List S60) (hn : xs.length ≤ 9223372036854775807) (b : Bool) : Ev (fun k => impl_plotsCode.f k xs b) (if okAll xs = true then (if b = true then 0 else 2) else 1) := by
  unfold impl_plotsCode.f
  refine Ev.bind (iValid xs hn) (ev_eq fun k => ?_)
  cases okAll xs <;> cases b <;> rfl

def wv (x : S60) (d : Int) : Int := if inB (wrap64 (d - wrap64 x.f1)) 0 (wrap64 x.f2) = true then mx 0 (wrap64 ((wrap64 x.f0) - (wrap64 ((wrap64 x.f3) * (wrap64 (d - (wrap64 x.f1))))))) else 0

theorem worth_i (x : S60) (d : Int) : impl_Plot_worth.f x.f0 x.f1 x.f2 x.f3 d = some (wv x d) := by
  unfold impl_Plot_worth.f wv inB
  rw [p_within]
  simp only [Option.bind_some]
  split <;> rfl

theorem worth_s (x : S60) (d : Int) : spec_l07Worth.f x.f0 x.f1 x.f2 x.f3 d = some (wv x d) := by
  unfold spec_l07Worth.f wv inB
  rw [p_in]
  simp only [Option.bind_some]
  split
  · unfold spec_l00Max.f mx
    split <;> split <;> first | rfl | (exfalso; omega) | (simp only [Option.bind_some, Option.some.injEq]; omega)
  · rfl

theorem tail_law {f : Nat → Option Bool} (xs : List S62) (hs : xs.length ≤ 1048576) (h : ∀ k, f (k + 1) = (laws_toPlotS.f k xs).bind fun t => (laws_eqPlotS.f k (xs.map conv) t).bind fun u => (if u = true then (some true) else (some false))) : Ev f true :=
  Ev.step h (Ev.bind (toPlotS xs hs) (Ev.bind (eqPlotS _ (by rw [List.length_map]; omega)) (ev_eq fun _ => rfl)))

theorem best_ev (x : S60) (n : Int) (hn : n ≤ 20) (d : Nat) : ∀ i b : Int, 1 ≤ i → i ≤ n → n - i = d → ∃ r, Ev (fun k => spec_l07Best.l0 k n b i x.f0 x.f1 x.f2 x.f3) (r, wv x r) ∧ Ev (fun k => impl_Plot_best.l0 k b (wv x b) n i x.f0 x.f1 x.f2 x.f3) (r, wv x r) := by
  induction d with
  | zero =>
    intro i b h0 h1 hd
    refine ⟨b, Ev.step (f := fun _ => some (b, wv x b)) (fun k => ?_) (ev_eq fun k => rfl), Ev.step (f := fun _ => some (b, wv x b)) (fun k => ?_) (ev_eq fun k => rfl)⟩
    · simp only [spec_l07Best.l0]; rw [if_neg (by omega), worth_s]; rfl
    · simp only [impl_Plot_best.l0]; rw [if_neg (by omega)]
  | succ d ih =>
    intro i b h0 h1 hd
    have hlt : i < n := by omega
    have hw : wrap64 (i + 1) = i + 1 := by unfold wrap64; omega
    by_cases hg : wv x i > wv x b
    · obtain ⟨r, hr1, hr2⟩ := ih (i + 1) i (by omega) (by omega) (by omega)
      refine ⟨r, Ev.step (fun k => ?_) hr1, Ev.step (fun k => ?_) hr2⟩
      · simp only [spec_l07Best.l0]; rw [if_pos hlt, worth_s, worth_s]; simp only [Option.bind_some]; rw [if_pos hg, hw]
      · simp only [impl_Plot_best.l0]; rw [if_pos hlt, worth_i]; simp only [Option.bind_some]; rw [if_pos hg, hw]
    · obtain ⟨r, hr1, hr2⟩ := ih (i + 1) b (by omega) (by omega) (by omega)
      refine ⟨r, Ev.step (fun k => ?_) hr1, Ev.step (fun k => ?_) hr2⟩
      · simp only [spec_l07Best.l0]; rw [if_pos hlt, worth_s, worth_s]; simp only [Option.bind_some]; rw [if_neg hg, hw]
      · simp only [impl_Plot_best.l0]; rw [if_pos hlt, worth_i]; simp only [Option.bind_some]; rw [if_neg hg, hw]

theorem best (x : S60) (n : Int) (h1 : 1 ≤ n) (hn : n ≤ 20) : ∃ r, Ev (fun k => spec_l07Best.f k x.f0 x.f1 x.f2 x.f3 n) (r, wv x r) ∧ Ev (fun k => impl_Plot_best.f k x.f0 x.f1 x.f2 x.f3 n) (r, wv x r) := by
  obtain ⟨r, hr1, hr2⟩ := best_ev x n hn (n - 1).toNat 1 0 (by omega) (by omega) (by omega)
  refine ⟨r, ?_, ?_⟩
  · unfold spec_l07Best.f; exact hr1
  · unfold impl_Plot_best.f
    rw [worth_i]
    simp only [Option.bind_some]
    refine Ev.step (fun k => ?_) hr2
    simp only [impl_Plot_best.l0]
    rw [if_pos (by omega), worth_i]
    simp only [Option.bind_some]
    rw [if_neg (by omega), show wrap64 (0 + 1) = 1 by unfold wrap64; omega]

theorem days_s (n : Int) : spec_l07Days.f n = some (inB n 1 20) := by unfold spec_l07Days.f inB; rw [p_in]; rfl
theorem days_i (n : Int) : impl_areDays.f n = some (inB n 1 20) := by unfold impl_areDays.f inB; rw [p_within]; rfl
theorem days_in {n : Int} (h : inB n 1 20 = true) : 1 ≤ n ∧ n ≤ 20 := by
  unfold inB at h
  simpa only [Bool.and_eq_true, decide_eq_true_eq] using h

theorem loop (xs : List S60) (hn : xs.length ≤ 9223372036854775807) (n : Int) (h1 : 1 ≤ n) (h2 : n ≤ 20) (d : Nat) : ∀ i s : Int, 0 ≤ i → i ≤ xs.length → (xs.length : Int) - i = d → ∃ r, Ev (fun k => spec_WorthBound.l0 k xs n s i) r ∧ Ev (fun k => impl_WorthBound.l0 k n s xs (xs.length : Int) i) r := by
  induction d with
  | zero =>
    intro i s h0 hi hd
    exact ⟨(s, 0), Ev.step (fun k => by simp only [spec_WorthBound.l0]; rw [if_neg (by omega)]) (ev_eq fun k => rfl), Ev.step (fun k => by simp only [impl_WorthBound.l0]; rw [if_neg (by omega)]) (ev_eq fun k => rfl)⟩
  | succ d ih =>
    intro i s h0 hi hd
    have hlt : i < (xs.length : Int) := by omega
    obtain ⟨b, hb1, hb2⟩ := best (rd_T60 xs i) n h1 h2
    obtain ⟨r, hr1, hr2⟩ := ih (i + 1) (wrap64 (s + wv (rd_T60 xs i) b)) (by omega) (by omega) (by omega)
    refine ⟨r, Ev.step (fun k => by simp only [spec_WorthBound.l0]; rw [if_pos hlt, if_pos h0]) ?_, Ev.step (fun k => by simp only [impl_WorthBound.l0]; rw [if_pos hlt, if_pos h0, if_pos hlt]) ?_⟩
    · refine Ev.bind hb1 ?_; rw [wrap_i h0 hlt hn]; exact hr1
    · refine Ev.bind hb2 ?_; rw [wrap_i h0 hlt hn]; exact hr2

theorem both (xs : List S60) (hn : xs.length ≤ 9223372036854775807) (n : Int) : ∃ r, Ev (fun k => spec_WorthBound.f k xs n) r ∧ Ev (fun k => impl_WorthBound.f k xs n) r := by
  unfold spec_WorthBound.f impl_WorthBound.f
  simp only [Option.bind_some, days_s, days_i]
  cases hv : okAll xs
  · refine ⟨(0, 1), Ev.bind (asked xs hn _) (ev_eq fun k => ?_), Ev.bind (plotsCode xs hn _) (ev_eq fun k => ?_)⟩ <;> simp [hv]
  · cases hb : inB n 1 20
    · refine ⟨(0, 2), Ev.bind (asked xs hn false) (ev_eq fun k => ?_), Ev.bind (plotsCode xs hn false) (ev_eq fun k => ?_)⟩ <;> simp [hv]
    · obtain ⟨d0, d1⟩ := days_in hb
      obtain ⟨r, hr1, hr2⟩ := loop xs hn n d0 d1 xs.length 0 0 (by omega) (by omega) (by omega)
      refine ⟨r, Ev.bind (asked xs hn true) ?_, Ev.bind (plotsCode xs hn true) ?_⟩ <;> simp only [hv, if_true]
      · exact hr1
      · exact hr2

theorem pure (xs : List S62) (hn : xs.length ≤ maxLen) (d : Int) : Ev (fun k => laws_FnExactWorthBound.f k xs d) true := by
  have hn : xs.length ≤ 9223372036854775807 := by unfold maxLen at hn; omega
  unfold laws_FnExactWorthBound.f
  refine sized_law xs hn (fun hs => ?_)
  have hm : (xs.map conv).length ≤ 9223372036854775807 := by rw [List.length_map]; exact hn
  obtain ⟨r, hr1, hr2⟩ := both (xs.map conv) hm d
  refine Ev.bind (toPlotS xs hs) (Ev.bind hr1 (Ev.bind (toPlotS xs hs) (Ev.bind hr2 ?_)))
  simp only [if_true, bne_self_eq_false]
  exact tail_law xs hs (fun k => by simp only [laws_FnExactWorthBound.j0, Bool.false_eq_true, if_false])

theorem walk (A : Option Addr) (cap : Nat) (xs : List S62) (hc : xs.length ≤ cap) (hm : xs.length ≤ maxLen) {W : World} (kc : Kd.C k62 W A xs.length xs) (d : Int) (_ : (Lit.int .i64 d).wf = true) :
    Calls Try.prog 12 #[.slice A xs.length cap, .int .i64 d] W fun e w' => e = .returned (.bool true) ∧ Below W.heap.size W w' := by
  obtain ⟨k, hk⟩ := (pure xs hm d).rounds
  exact laws_FnExactWorthBound.calls k A cap xs d true W kc hc hk
end Go.Proofs.Ytgdkimdikalmkaa.PFnExactWorthBound
