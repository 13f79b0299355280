/- What the program's functions come to, each as a plain function, with its proof; no condition but those that each theorem names. Written by a program of this claim around the kit's print. -/
import Derived.Test.YtgdkimdikalmkaaPFnSharesx0
import Derived.Test.YtgdkimdikalmkaaPFnSharesx1
import Derived.Test.YtgdkimdikalmkaaPFnSharesx2
import Derived.Test.YtgdkimdikalmkaaPFnSharesx3
import Derived.Test.YtgdkimdikalmkaaPFnSharesx4
import Derived.Test.YtgdkimdikalmkaaPFnSharesx5
namespace Go.Proofs.Ytgdkimdikalmkaa.PFnShares
open Go.RowKit Go.Proofs.YtgdkimdikalmkaaW.PrintWords Go.Proofs.YtgdkimdikalmkaaW.PrintLast Go.Proofs.YtgdkimdikalmkaaW.PrintMore
attribute [local go_sem] max2_int min2_int max_two min_two max_three min_three max_four min_four   -- for this text's walks alone
set_option linter.unusedVariables false
set_option linter.unusedSimpArgs false

set_option maxHeartbeats 8000000 in
set_option maxRecDepth 100000 in
theorem laws_FnShares.calls (k : Nat) (A0 : Option Addr) (c0 : Nat) (l0 : List Int) (A1 : Option Addr) (c1 : Nat) (l1 : List Int) (r : Bool) (w : World) (hr0 : Kd.C (Kd.int .u8) w A0 l0.length l0) (hc0 : l0.length ≤ c0) (hr1 : Kd.C (Kd.int .u8) w A1 l1.length l1) (hc1 : l1.length ≤ c1) (h : laws_FnShares.f k l0 l1 = some r) :
  Calls Try.prog 14 #[.slice A0 l0.length c0, .slice A1 l1.length c1] w fun e w' => e = .returned (.bool r) ∧ Below w.heap.size w w' := by
 have HR0 := Aside0.mk hr0
 have HC0 := Aside0.mk hc0
 clear hr0 hc0
 have HR1 := Aside0.mk hr1
 have HC1 := Aside0.mk hc1
 clear hr1 hc1
 have HB := Aside0.mk (Below.refl w.heap.size w)
 have H : ((laws_a2Long.f l0 l1).bind fun t228 => (if t228 = true then (some true) else ((spec_A2Amounts.f k l0).bind fun t229 => ((laws_a2At.f l1 0 256).bind fun t232 => ((laws_a2At.f l1 1 256).bind fun t233 => (laws_FnShares.l0 k l1 t229 (wrap64 (t232 + (wrap64 (7 * t233)))) 0 0)))))) = some r := h
 clear h
 replace H := Option.bind_eq_some_iff.mp H
 obtain ⟨t228, A30, H⟩ := H
 replace H : (if t228 = true then (some true) else ((spec_A2Amounts.f k l0).bind fun t229 => ((laws_a2At.f l1 0 256).bind fun t232 => ((laws_a2At.f l1 1 256).bind fun t233 => (laws_FnShares.l0 k l1 t229 (wrap64 (t232 + (wrap64 (7 * t233)))) 0 0))))) = some r := H
 have A3 := Aside0.mk A30
 clear A30
 by_cases c4 : t228 = true
 ·as_aux_lemma =>
  subst c4
  have H1 : (some true) = some r := by rw [if_pos rfl] at H; exact H
  clear H
  have H := H1
  clear H1
  obtain rfl := Option.some.inj H
  go_enter Try.func14, Try.ntmps14
  go_wp2_with (first | (go_at_call 44; (with_reducible refine (laws_a2Long.calls _ _ l0 _ _ l1 true _ ?side1 ?side2 ?side3 ?side4 A3.out).mono ?_); (case side1 => repeat (first | exact HR0.out | (with_reducible refine Kd.C_alloc ?_ _) | (with_reducible refine Kd.C_drewN ?_ _) | (with_reducible refine Kd.C_drew ?_))); (case side2 => exact HC0.out); (case side3 => repeat (first | exact HR1.out | (with_reducible refine Kd.C_alloc ?_ _) | (with_reducible refine Kd.C_drewN ?_ _) | (with_reducible refine Kd.C_drew ?_))); (case side4 => exact HC1.out); rintro e w' ⟨rfl, ⟨nd, rfl⟩⟩; (try first | exact ⟨rfl, _, World.drewN_drewN _ _ _⟩ | exact ⟨rfl, _, Eq.trans (World.drewN_drewN _ _ _) (congrArg (World.drewN _) (Nat.add_assoc _ _ _))⟩)))
  repeat (go_quiet (fail); try go_wp2_with (first | (go_at_call 44; (with_reducible refine (laws_a2Long.calls _ _ l0 _ _ l1 true _ ?side1 ?side2 ?side3 ?side4 A3.out).mono ?_); (case side1 => repeat (first | exact HR0.out | (with_reducible refine Kd.C_alloc ?_ _) | (with_reducible refine Kd.C_drewN ?_ _) | (with_reducible refine Kd.C_drew ?_))); (case side2 => exact HC0.out); (case side3 => repeat (first | exact HR1.out | (with_reducible refine Kd.C_alloc ?_ _) | (with_reducible refine Kd.C_drewN ?_ _) | (with_reducible refine Kd.C_drew ?_))); (case side4 => exact HC1.out); rintro e w' ⟨rfl, ⟨nd, rfl⟩⟩; (try first | exact ⟨rfl, _, World.drewN_drewN _ _ _⟩ | exact ⟨rfl, _, Eq.trans (World.drewN_drewN _ _ _) (congrArg (World.drewN _) (Nat.add_assoc _ _ _))⟩))))
  go_ret
  exact ⟨by first | rfl | (simp [errW_none, errW_some] <;> rfl) | (simp [*, errW_none, errW_some] <;> rfl), by repeat (first | (with_reducible first | exact HB.out | apply below_alloc | apply pw_below_drewN | apply below_drew1) | exact HB.out)⟩
 ·as_aux_lemma =>
  replace c4 := Bool.eq_false_iff.mpr c4
  subst c4
  have H1 : ((spec_A2Amounts.f k l0).bind fun t229 => ((laws_a2At.f l1 0 256).bind fun t232 => ((laws_a2At.f l1 1 256).bind fun t233 => (laws_FnShares.l0 k l1 t229 (wrap64 (t232 + (wrap64 (7 * t233)))) 0 0)))) = some r := by rw [if_neg (show ¬ (false = true) by decide)] at H; exact H
  clear H
  have H := H1
  clear H1
  replace H := Option.bind_eq_some_iff.mp H
  obtain ⟨t229, A50, H⟩ := H
  replace H : ((laws_a2At.f l1 0 256).bind fun t232 => ((laws_a2At.f l1 1 256).bind fun t233 => (laws_FnShares.l0 k l1 t229 (wrap64 (t232 + (wrap64 (7 * t233)))) 0 0))) = some r := H
  have A5 := Aside0.mk A50
  clear A50
  replace H := Option.bind_eq_some_iff.mp H
  obtain ⟨t232, A60, H⟩ := H
  replace H : ((laws_a2At.f l1 1 256).bind fun t233 => (laws_FnShares.l0 k l1 t229 (wrap64 (t232 + (wrap64 (7 * t233)))) 0 0)) = some r := H
  have A6 := Aside0.mk A60
  clear A60
  replace H := Option.bind_eq_some_iff.mp H
  obtain ⟨t233, A70, H⟩ := H
  replace H : (laws_FnShares.l0 k l1 t229 (wrap64 (t232 + (wrap64 (7 * t233)))) 0 0) = some r := H
  have A7 := Aside0.mk A70
  clear A70
  have H' := Aside0.mk H
  clear H
  go_enter Try.func14, Try.ntmps14
  go_wp2_with (first | (go_at_call 44; (with_reducible refine (laws_a2Long.calls _ _ l0 _ _ l1 false _ ?side1 ?side2 ?side3 ?side4 A3.out).mono ?_); (case side1 => repeat (first | exact HR0.out | (with_reducible refine Kd.C_alloc ?_ _) | (with_reducible refine Kd.C_drewN ?_ _) | (with_reducible refine Kd.C_drew ?_))); (case side2 => exact HC0.out); (case side3 => repeat (first | exact HR1.out | (with_reducible refine Kd.C_alloc ?_ _) | (with_reducible refine Kd.C_drewN ?_ _) | (with_reducible refine Kd.C_drew ?_))); (case side4 => exact HC1.out); rintro e w' ⟨rfl, ⟨nd, rfl⟩⟩; (try first | exact ⟨rfl, _, World.drewN_drewN _ _ _⟩ | exact ⟨rfl, _, Eq.trans (World.drewN_drewN _ _ _) (congrArg (World.drewN _) (Nat.add_assoc _ _ _))⟩)) | (go_at_call 45; (with_reducible refine (spec_A2Amounts.calls k _ _ l0 t229 _ ?side1 ?side2 A5.out).mono ?_); (case side1 => repeat (first | exact HR0.out | (with_reducible refine Kd.C_alloc ?_ _) | (with_reducible refine Kd.C_drewN ?_ _) | (with_reducible refine Kd.C_drew ?_))); (case side2 => exact HC0.out); rintro e w8 ⟨v230, rfl, ho0, hb⟩; have n0_ := Aside0.mk (Kd.R_lower ho0 (below_size (by repeat (first | (with_reducible first | exact HB.out | apply below_alloc | apply pw_below_drewN | apply below_drew1) | exact HB.out)))); have n1_ := Aside0.mk (below_step (by repeat (first | (with_reducible first | exact HB.out | apply below_alloc | apply pw_below_drewN | apply below_drew1) | exact HB.out)) hb); clear HB; have HO231 := n0_; have HB := n1_; clear n0_ n1_; (try clear hb); (try clear hb2); (try clear hk); (try clear hi); (try clear ho0)) | (go_at_call 46; (with_reducible refine (laws_a2At.calls _ _ l1 0 256 t232 _ ?side1 ?side2 A6.out).mono ?_); (case side1 => repeat (first | exact (Kd.C_below HR1.out HB.out) | (with_reducible refine Kd.C_alloc ?_ _) | (with_reducible refine Kd.C_drewN ?_ _) | (with_reducible refine Kd.C_drew ?_))); (case side2 => exact HC1.out); rintro e w' ⟨rfl, ⟨nd, rfl⟩⟩; (try first | exact ⟨rfl, _, World.drewN_drewN _ _ _⟩ | exact ⟨rfl, _, Eq.trans (World.drewN_drewN _ _ _) (congrArg (World.drewN _) (Nat.add_assoc _ _ _))⟩)) | (go_at_call 46; (with_reducible refine (laws_a2At.calls _ _ l1 1 256 t233 _ ?side1 ?side2 A7.out).mono ?_); (case side1 => repeat (first | exact (Kd.C_below HR1.out (by repeat (first | (with_reducible first | exact HB.out | apply below_alloc | apply pw_below_drewN | apply below_drew1) | exact HB.out))) | (with_reducible refine Kd.C_alloc ?_ _) | (with_reducible refine Kd.C_drewN ?_ _) | (with_reducible refine Kd.C_drew ?_))); (case side2 => exact HC1.out); rintro e w' ⟨rfl, ⟨nd, rfl⟩⟩; (try first | exact ⟨rfl, _, World.drewN_drewN _ _ _⟩ | exact ⟨rfl, _, Eq.trans (World.drewN_drewN _ _ _) (congrArg (World.drewN _) (Nat.add_assoc _ _ _))⟩)))
  repeat (go_quiet (fail); try go_wp2_with (first | (go_at_call 44; (with_reducible refine (laws_a2Long.calls _ _ l0 _ _ l1 false _ ?side1 ?side2 ?side3 ?side4 A3.out).mono ?_); (case side1 => repeat (first | exact HR0.out | (with_reducible refine Kd.C_alloc ?_ _) | (with_reducible refine Kd.C_drewN ?_ _) | (with_reducible refine Kd.C_drew ?_))); (case side2 => exact HC0.out); (case side3 => repeat (first | exact HR1.out | (with_reducible refine Kd.C_alloc ?_ _) | (with_reducible refine Kd.C_drewN ?_ _) | (with_reducible refine Kd.C_drew ?_))); (case side4 => exact HC1.out); rintro e w' ⟨rfl, ⟨nd, rfl⟩⟩; (try first | exact ⟨rfl, _, World.drewN_drewN _ _ _⟩ | exact ⟨rfl, _, Eq.trans (World.drewN_drewN _ _ _) (congrArg (World.drewN _) (Nat.add_assoc _ _ _))⟩)) | (go_at_call 45; (with_reducible refine (spec_A2Amounts.calls k _ _ l0 t229 _ ?side1 ?side2 A5.out).mono ?_); (case side1 => repeat (first | exact HR0.out | (with_reducible refine Kd.C_alloc ?_ _) | (with_reducible refine Kd.C_drewN ?_ _) | (with_reducible refine Kd.C_drew ?_))); (case side2 => exact HC0.out); rintro e w8 ⟨v230, rfl, ho0, hb⟩; have n0_ := Aside0.mk (Kd.R_lower ho0 (below_size (by repeat (first | (with_reducible first | exact HB.out | apply below_alloc | apply pw_below_drewN | apply below_drew1) | exact HB.out)))); have n1_ := Aside0.mk (below_step (by repeat (first | (with_reducible first | exact HB.out | apply below_alloc | apply pw_below_drewN | apply below_drew1) | exact HB.out)) hb); clear HB; have HO231 := n0_; have HB := n1_; clear n0_ n1_; (try clear hb); (try clear hb2); (try clear hk); (try clear hi); (try clear ho0)) | (go_at_call 46; (with_reducible refine (laws_a2At.calls _ _ l1 0 256 t232 _ ?side1 ?side2 A6.out).mono ?_); (case side1 => repeat (first | exact (Kd.C_below HR1.out HB.out) | (with_reducible refine Kd.C_alloc ?_ _) | (with_reducible refine Kd.C_drewN ?_ _) | (with_reducible refine Kd.C_drew ?_))); (case side2 => exact HC1.out); rintro e w' ⟨rfl, ⟨nd, rfl⟩⟩; (try first | exact ⟨rfl, _, World.drewN_drewN _ _ _⟩ | exact ⟨rfl, _, Eq.trans (World.drewN_drewN _ _ _) (congrArg (World.drewN _) (Nat.add_assoc _ _ _))⟩)) | (go_at_call 46; (with_reducible refine (laws_a2At.calls _ _ l1 1 256 t233 _ ?side1 ?side2 A7.out).mono ?_); (case side1 => repeat (first | exact (Kd.C_below HR1.out (by repeat (first | (with_reducible first | exact HB.out | apply below_alloc | apply pw_below_drewN | apply below_drew1) | exact HB.out))) | (with_reducible refine Kd.C_alloc ?_ _) | (with_reducible refine Kd.C_drewN ?_ _) | (with_reducible refine Kd.C_drew ?_))); (case side2 => exact HC1.out); rintro e w' ⟨rfl, ⟨nd, rfl⟩⟩; (try first | exact ⟨rfl, _, World.drewN_drewN _ _ _⟩ | exact ⟨rfl, _, Eq.trans (World.drewN_drewN _ _ _) (congrArg (World.drewN _) (Nat.add_assoc _ _ _))⟩))))
  go_loopg [7, 8] k (fun kq v7 v8 w' => ∃ (x7_1 : Int) (x8_1 : Int), v7 = .int .i64 x7_1 ∧ v8 = .int .i64 x8_1 ∧ Aside0 (laws_FnShares.l0 kq l1 t229 (wrap64 (t232 + (wrap64 (7 * t233)))) x7_1 x8_1 = some r) ∧ Aside0 (kq ≤ k) ∧ Aside0 (Kd.R (Kd.int .i64) 2 w' w.heap.size (fun _ => True) v230 t229) ∧ Aside0 (Below w.heap.size w w'))
  case atStart => exact ⟨(0), (0), (by first | rfl | (simp; done) | (simp [*]; done)), (by first | rfl | (simp; done) | (simp [*]; done)), H', ⟨Nat.le_refl _⟩, ⟨by (with_reducible repeat (first | apply Kd.R_alloc | apply Kd.R_drewN | apply Kd.R_drew)); exact HO231.out⟩, ⟨by repeat (first | (with_reducible first | exact HB.out | apply below_alloc | apply pw_below_drewN | apply below_drew1) | exact HB.out)⟩⟩
  case round => as_aux_lemma =>
   clear H'
   try clear c1
   try clear p2
   try clear c4
   try clear p6
   obtain ⟨x7_1, x8_1, rfl, rfl, HA, HK1, HO_5, HB⟩ := hrel
   cases gk with
   | zero => exact absurd HA.out (by simp [laws_FnShares.l0])
   | succ k1 =>
    have H := HA.out
    clear HA
    simp only [laws_FnShares.l0] at H
    by_cases c9 : x8_1 < (t229.length : Int)
    ·rw [if_pos c9] at H
     have c9b0 : decide (x8_1 < (t229.length : Int)) = true := decide_eq_true c9
     clear c9
     by_cases c10 : 0 ≤ x8_1
     ·rw [if_pos c10] at H
      have c10b0 : decide (0 ≤ x8_1) = true := decide_eq_true c10
      clear c10
      have H' := Aside0.mk H
      clear H
      obtain ⟨Ao11, co11, eo11⟩ := Kd.R_slice HO_5.out
      subst eo11
      have p234 : 0 ≤ (x8_1 : Int) := of_decide_eq_true (by first | (with_reducible assumption) | assumption)
      have q234 : x8_1 < (t229.length : Int) := of_decide_eq_true (by first | (with_reducible assumption) | assumption)
      obtain ⟨ad234, e234, hx234_0⟩ := Kd.at_int (Kd.R_reads' HO_5.out).2.2 x8_1 p234 q234
      cases e234
      replace p234 := eq_true p234
      replace q234 := eq_true q234
      go_wp2
      repeat (go_quiet (fail); try go_wp2)
      go_roundg k1
      case measure => have := HK1.out; omega
      case rel => exact ⟨(wrap64 (x7_1 + (rd t229 x8_1))), (wrap64 (x8_1 + 1)), (by first | rfl | (simp; done) | (simp [*]; done)), (by first | rfl | (simp; done) | (simp [*]; done)), H', ⟨by have := HK1.out; omega⟩, ⟨by (with_reducible repeat (first | apply Kd.R_alloc | apply Kd.R_drewN | apply Kd.R_drew)); exact HO_5.out⟩, ⟨by repeat (first | (with_reducible first | exact HB.out | apply below_alloc | apply pw_below_drewN | apply below_drew1) | exact HB.out)⟩⟩
     ·rw [if_neg c10] at H
      exact absurd H (by simp)
    ·rw [if_neg c9] at H
     have c9b0 : decide (x8_1 < (t229.length : Int)) = false := decide_eq_false c9
     clear c9
     replace H := Option.bind_eq_some_iff.mp H
     obtain ⟨⟨t235, t236⟩, A120, H⟩ := H
     replace H : ((spec_SharesOf.f t229 (wrap64 (t232 + (wrap64 (7 * t233))))).bind fun bt239 => (if t236 = bt239.2 then ((spec_A2Same.f k1 t235 bt239.1).bind fun t243 => (if t243 = true then (if x7_1 = 0 then (laws_FnShares.j1 k1 l1 t229 (wrap64 (t232 + (wrap64 (7 * t233)))) x7_1 t236 bt239.1 ((t236 == 4) != (decide ((wrap64 (t232 + (wrap64 (7 * t233)))) > 0)))) else (laws_FnShares.j1 k1 l1 t229 (wrap64 (t232 + (wrap64 (7 * t233)))) x7_1 t236 bt239.1 ((t236 == 4) != false))) else (laws_FnShares.j1 k1 l1 t229 (wrap64 (t232 + (wrap64 (7 * t233)))) x7_1 t236 bt239.1 true))) else (laws_FnShares.j1 k1 l1 t229 (wrap64 (t232 + (wrap64 (7 * t233)))) x7_1 t236 bt239.1 true))) = some r := H
     have A12 := Aside0.mk A120
     clear A120
     replace H := Option.bind_eq_some_iff.mp H
     obtain ⟨⟨t239, t240⟩, A130, H⟩ := H
     replace H : (if t236 = t240 then ((spec_A2Same.f k1 t235 t239).bind fun t243 => (if t243 = true then (if x7_1 = 0 then (laws_FnShares.j1 k1 l1 t229 (wrap64 (t232 + (wrap64 (7 * t233)))) x7_1 t236 t239 ((t236 == 4) != (decide ((wrap64 (t232 + (wrap64 (7 * t233)))) > 0)))) else (laws_FnShares.j1 k1 l1 t229 (wrap64 (t232 + (wrap64 (7 * t233)))) x7_1 t236 t239 ((t236 == 4) != false))) else (laws_FnShares.j1 k1 l1 t229 (wrap64 (t232 + (wrap64 (7 * t233)))) x7_1 t236 t239 true))) else (laws_FnShares.j1 k1 l1 t229 (wrap64 (t232 + (wrap64 (7 * t233)))) x7_1 t236 t239 true)) = some r := H
     have A13 := Aside0.mk A130
     clear A130
     have HC14 := Aside0.mk H
     clear H
     obtain ⟨Ao15, co15, eo15⟩ := Kd.R_slice HO_5.out
     subst eo15
     go_upto_region 12 with (first | (go_at_call 43; (with_reducible refine (impl_SharesOf.calls _ _ t229 (wrap64 (t232 + (wrap64 (7 * t233)))) t235 t236 _ ?side1 ?side2 A12.out).mono ?_); (case side1 => repeat (first | exact (Kd.R_reads' HO_5.out).2.2 | (with_reducible refine Kd.C_alloc ?_ _) | (with_reducible refine Kd.C_drewN ?_ _) | (with_reducible refine Kd.C_drew ?_))); (case side2 => exact (Kd.R_reads' HO_5.out).2.1); rintro e w16 ⟨v237, rfl, ho0, hb⟩; have n0_ := Aside0.mk (Kd.R_elder' (by (with_reducible repeat (first | apply Kd.R_alloc | apply Kd.R_drewN | apply Kd.R_drew)); exact HO_5.out) (Kd.R_base ho0) hb); have n1_ := Aside0.mk (Kd.R_lower (Kd.R_new' ho0 (Kd.R_lt (by (with_reducible repeat (first | apply Kd.R_alloc | apply Kd.R_drewN | apply Kd.R_drew)); exact HO_5.out))) (below_size (by repeat (first | (with_reducible first | exact HB.out | apply below_alloc | apply pw_below_drewN | apply below_drew1) | exact HB.out)))); have n2_ := Aside0.mk (below_step (by repeat (first | (with_reducible first | exact HB.out | apply below_alloc | apply pw_below_drewN | apply below_drew1) | exact HB.out)) hb); clear HO_5; clear HB; have HO_5 := n0_; have HO238 := n1_; have HB := n2_; clear n0_ n1_ n2_; (try clear hb); (try clear hb2); (try clear hk); (try clear hi); (try clear ho0)) | (go_at_call 42; (with_reducible refine (spec_SharesOf.calls _ _ t229 (wrap64 (t232 + (wrap64 (7 * t233)))) t239 t240 _ ?side1 ?side2 A13.out).mono ?_); (case side1 => repeat (first | exact (Kd.R_reads' HO_5.out).2.2 | (with_reducible refine Kd.C_alloc ?_ _) | (with_reducible refine Kd.C_drewN ?_ _) | (with_reducible refine Kd.C_drew ?_))); (case side2 => exact (Kd.R_reads' HO_5.out).2.1); rintro e w17 ⟨v241, rfl, ho0, hb⟩; have n0_ := Aside0.mk (Kd.R_elder' (by (with_reducible repeat (first | apply Kd.R_alloc | apply Kd.R_drewN | apply Kd.R_drew)); exact HO_5.out) (Kd.R_base ho0) hb); have n1_ := Aside0.mk (Kd.R_elder' (by (with_reducible repeat (first | apply Kd.R_alloc | apply Kd.R_drewN | apply Kd.R_drew)); exact HO238.out) (Kd.R_base ho0) hb); have n2_ := Aside0.mk (Kd.R_lower (Kd.R_new' (Kd.R_new' ho0 (Kd.R_lt (by (with_reducible repeat (first | apply Kd.R_alloc | apply Kd.R_drewN | apply Kd.R_drew)); exact HO_5.out))) (Kd.R_lt (by (with_reducible repeat (first | apply Kd.R_alloc | apply Kd.R_drewN | apply Kd.R_drew)); exact HO238.out))) (below_size (by repeat (first | (with_reducible first | exact HB.out | apply below_alloc | apply pw_below_drewN | apply below_drew1) | exact HB.out)))); have n3_ := Aside0.mk (below_step (by repeat (first | (with_reducible first | exact HB.out | apply below_alloc | apply pw_below_drewN | apply below_drew1) | exact HB.out)) hb); clear HO_5; clear HO238; clear HB; have HO_5 := n0_; have HO238 := n1_; have HO242 := n2_; have HB := n3_; clear n0_ n1_ n2_ n3_; (try clear hb); (try clear hb2); (try clear hk); (try clear hi); (try clear ho0)))
     repeat (go_quiet (fail); go_upto_region 12 with (first | (go_at_call 43; (with_reducible refine (impl_SharesOf.calls _ _ t229 (wrap64 (t232 + (wrap64 (7 * t233)))) t235 t236 _ ?side1 ?side2 A12.out).mono ?_); (case side1 => repeat (first | exact (Kd.R_reads' HO_5.out).2.2 | (with_reducible refine Kd.C_alloc ?_ _) | (with_reducible refine Kd.C_drewN ?_ _) | (with_reducible refine Kd.C_drew ?_))); (case side2 => exact (Kd.R_reads' HO_5.out).2.1); rintro e w16 ⟨v237, rfl, ho0, hb⟩; have n0_ := Aside0.mk (Kd.R_elder' (by (with_reducible repeat (first | apply Kd.R_alloc | apply Kd.R_drewN | apply Kd.R_drew)); exact HO_5.out) (Kd.R_base ho0) hb); have n1_ := Aside0.mk (Kd.R_lower (Kd.R_new' ho0 (Kd.R_lt (by (with_reducible repeat (first | apply Kd.R_alloc | apply Kd.R_drewN | apply Kd.R_drew)); exact HO_5.out))) (below_size (by repeat (first | (with_reducible first | exact HB.out | apply below_alloc | apply pw_below_drewN | apply below_drew1) | exact HB.out)))); have n2_ := Aside0.mk (below_step (by repeat (first | (with_reducible first | exact HB.out | apply below_alloc | apply pw_below_drewN | apply below_drew1) | exact HB.out)) hb); clear HO_5; clear HB; have HO_5 := n0_; have HO238 := n1_; have HB := n2_; clear n0_ n1_ n2_; (try clear hb); (try clear hb2); (try clear hk); (try clear hi); (try clear ho0)) | (go_at_call 42; (with_reducible refine (spec_SharesOf.calls _ _ t229 (wrap64 (t232 + (wrap64 (7 * t233)))) t239 t240 _ ?side1 ?side2 A13.out).mono ?_); (case side1 => repeat (first | exact (Kd.R_reads' HO_5.out).2.2 | (with_reducible refine Kd.C_alloc ?_ _) | (with_reducible refine Kd.C_drewN ?_ _) | (with_reducible refine Kd.C_drew ?_))); (case side2 => exact (Kd.R_reads' HO_5.out).2.1); rintro e w17 ⟨v241, rfl, ho0, hb⟩; have n0_ := Aside0.mk (Kd.R_elder' (by (with_reducible repeat (first | apply Kd.R_alloc | apply Kd.R_drewN | apply Kd.R_drew)); exact HO_5.out) (Kd.R_base ho0) hb); have n1_ := Aside0.mk (Kd.R_elder' (by (with_reducible repeat (first | apply Kd.R_alloc | apply Kd.R_drewN | apply Kd.R_drew)); exact HO238.out) (Kd.R_base ho0) hb); have n2_ := Aside0.mk (Kd.R_lower (Kd.R_new' (Kd.R_new' ho0 (Kd.R_lt (by (with_reducible repeat (first | apply Kd.R_alloc | apply Kd.R_drewN | apply Kd.R_drew)); exact HO_5.out))) (Kd.R_lt (by (with_reducible repeat (first | apply Kd.R_alloc | apply Kd.R_drewN | apply Kd.R_drew)); exact HO238.out))) (below_size (by repeat (first | (with_reducible first | exact HB.out | apply below_alloc | apply pw_below_drewN | apply below_drew1) | exact HB.out)))); have n3_ := Aside0.mk (below_step (by repeat (first | (with_reducible first | exact HB.out | apply below_alloc | apply pw_below_drewN | apply below_drew1) | exact HB.out)) hb); clear HO_5; clear HO238; clear HB; have HO_5 := n0_; have HO238 := n1_; have HO242 := n2_; have HB := n3_; clear n0_ n1_ n2_ n3_; (try clear hb); (try clear hb2); (try clear hk); (try clear hi); (try clear ho0))))
     (try simp only [Act.put, List.setIfInBounds_toArray, List.set_cons_zero, List.set_cons_succ])
     go_cut [87] (fun v87 wc => ∃ (kq : Nat) (x87_13 : Bool), v87 = .bool x87_13 ∧ Aside0 (laws_FnShares.j1 kq l1 t229 (wrap64 (t232 + (wrap64 (7 * t233)))) x7_1 t236 t239 x87_13 = some r) ∧ Aside0 (kq ≤ k1) ∧ Aside0 (Kd.R (Kd.int .i64) 2 wc w.heap.size (fun k_ => some k_ ≠ (v241 : Value).ownBlock) (.slice Ao15 t229.length co15) t229) ∧ Aside0 (Kd.R (Kd.int .i64) 2 wc w.heap.size (fun k_ => some k_ ≠ ((.slice Ao15 t229.length co15) : Value).ownBlock) v241 t239) ∧ Aside0 (Below w.heap.size w wc))
     case first => as_aux_lemma =>
      have H := HC14.out
      clear HC14
      by_cases c18 : t236 = t240
      ·rw [if_pos c18] at H
       have c18b0 : (t236 == t240) = true := beq_iff_eq.mpr c18
       have c18b1 : (t236 != t240) = false := bne_eq_false_iff_eq.mpr c18
       clear c18
       (first | rw [c18b0] | (simp only [i64_w, i32_w]; rw [c18b0]) | skip)
       replace H := Option.bind_eq_some_iff.mp H
       obtain ⟨t243, A190, H⟩ := H
       replace H : (if t243 = true then (if x7_1 = 0 then (laws_FnShares.j1 k1 l1 t229 (wrap64 (t232 + (wrap64 (7 * t233)))) x7_1 t236 t239 ((t236 == 4) != (decide ((wrap64 (t232 + (wrap64 (7 * t233)))) > 0)))) else (laws_FnShares.j1 k1 l1 t229 (wrap64 (t232 + (wrap64 (7 * t233)))) x7_1 t236 t239 ((t236 == 4) != false))) else (laws_FnShares.j1 k1 l1 t229 (wrap64 (t232 + (wrap64 (7 * t233)))) x7_1 t236 t239 true)) = some r := H
       have A19 := Aside0.mk A190
       clear A190
       by_cases c20 : t243 = true
       ·as_aux_lemma =>
        subst c20
        have H1 : (if x7_1 = 0 then (laws_FnShares.j1 k1 l1 t229 (wrap64 (t232 + (wrap64 (7 * t233)))) x7_1 t236 t239 ((t236 == 4) != (decide ((wrap64 (t232 + (wrap64 (7 * t233)))) > 0)))) else (laws_FnShares.j1 k1 l1 t229 (wrap64 (t232 + (wrap64 (7 * t233)))) x7_1 t236 t239 ((t236 == 4) != false))) = some r := by rw [if_pos rfl] at H; exact H
        clear H
        have H := H1
        clear H1
        by_cases c21 : x7_1 = 0
        ·rw [if_pos c21] at H
         have c21b0 : (x7_1 == 0) = true := beq_iff_eq.mpr c21
         have c21b1 : (x7_1 != 0) = false := bne_eq_false_iff_eq.mpr c21
         clear c21
         have H' := Aside0.mk H
         clear H
         obtain ⟨Ao22, co22, eo22⟩ := Kd.R_slice HO238.out
         subst eo22
         obtain ⟨Ao23, co23, eo23⟩ := Kd.R_slice HO242.out
         subst eo23
         go_wp2_with (first | (go_at_call 47; (with_reducible refine (spec_A2Same.calls k1 _ _ t235 _ _ t239 true _ ?side1 ?side2 ?side3 ?side4 A19.out).mono ?_); (case side1 => repeat (first | exact (Kd.R_reads' HO238.out).2.2 | (with_reducible refine Kd.C_alloc ?_ _) | (with_reducible refine Kd.C_drewN ?_ _) | (with_reducible refine Kd.C_drew ?_))); (case side2 => exact (Kd.R_reads' HO238.out).2.1); (case side3 => repeat (first | exact (Kd.R_reads' HO242.out).2.2 | (with_reducible refine Kd.C_alloc ?_ _) | (with_reducible refine Kd.C_drewN ?_ _) | (with_reducible refine Kd.C_drew ?_))); (case side4 => exact (Kd.R_reads' HO242.out).2.1); rintro e w' ⟨rfl, ⟨nd, rfl⟩⟩; (try first | exact ⟨rfl, _, World.drewN_drewN _ _ _⟩ | exact ⟨rfl, _, Eq.trans (World.drewN_drewN _ _ _) (congrArg (World.drewN _) (Nat.add_assoc _ _ _))⟩)))
         repeat (go_quiet (fail); try go_wp2_with (first | (go_at_call 47; (with_reducible refine (spec_A2Same.calls k1 _ _ t235 _ _ t239 true _ ?side1 ?side2 ?side3 ?side4 A19.out).mono ?_); (case side1 => repeat (first | exact (Kd.R_reads' HO238.out).2.2 | (with_reducible refine Kd.C_alloc ?_ _) | (with_reducible refine Kd.C_drewN ?_ _) | (with_reducible refine Kd.C_drew ?_))); (case side2 => exact (Kd.R_reads' HO238.out).2.1); (case side3 => repeat (first | exact (Kd.R_reads' HO242.out).2.2 | (with_reducible refine Kd.C_alloc ?_ _) | (with_reducible refine Kd.C_drewN ?_ _) | (with_reducible refine Kd.C_drew ?_))); (case side4 => exact (Kd.R_reads' HO242.out).2.1); rintro e w' ⟨rfl, ⟨nd, rfl⟩⟩; (try first | exact ⟨rfl, _, World.drewN_drewN _ _ _⟩ | exact ⟨rfl, _, Eq.trans (World.drewN_drewN _ _ _) (congrArg (World.drewN _) (Nat.add_assoc _ _ _))⟩))))
         go_meet
         case rel => exact ⟨_, (((t236 == 4) != (decide ((wrap64 (t232 + (wrap64 (7 * t233)))) > 0)))), (by first | rfl | (simp; done) | (simp [*]; done)), H', ⟨by have := HK1.out; first | omega | exact Nat.le_refl _⟩, ⟨by (with_reducible repeat (first | apply Kd.R_alloc | apply Kd.R_drewN | apply Kd.R_drew)); exact Kd.R_mono HO_5.out (fun _ hk => hk.2)⟩, ⟨by (with_reducible repeat (first | apply Kd.R_alloc | apply Kd.R_drewN | apply Kd.R_drew)); exact Kd.R_mono HO242.out (fun _ hk => hk.1.2)⟩, ⟨by repeat (first | (with_reducible first | exact HB.out | apply below_alloc | apply pw_below_drewN | apply below_drew1) | exact HB.out)⟩⟩
        ·rw [if_neg c21] at H
         have c21b0 : (x7_1 == 0) = false := beq_eq_false_iff_ne.mpr c21
         have c21b1 : (x7_1 != 0) = true := bne_iff_ne.mpr c21
         have H' := Aside0.mk H
         clear H
         obtain ⟨Ao24, co24, eo24⟩ := Kd.R_slice HO238.out
         subst eo24
         obtain ⟨Ao25, co25, eo25⟩ := Kd.R_slice HO242.out
         subst eo25
         go_wp2_with (first | (go_at_call 47; (with_reducible refine (spec_A2Same.calls k1 _ _ t235 _ _ t239 true _ ?side1 ?side2 ?side3 ?side4 A19.out).mono ?_); (case side1 => repeat (first | exact (Kd.R_reads' HO238.out).2.2 | (with_reducible refine Kd.C_alloc ?_ _) | (with_reducible refine Kd.C_drewN ?_ _) | (with_reducible refine Kd.C_drew ?_))); (case side2 => exact (Kd.R_reads' HO238.out).2.1); (case side3 => repeat (first | exact (Kd.R_reads' HO242.out).2.2 | (with_reducible refine Kd.C_alloc ?_ _) | (with_reducible refine Kd.C_drewN ?_ _) | (with_reducible refine Kd.C_drew ?_))); (case side4 => exact (Kd.R_reads' HO242.out).2.1); rintro e w' ⟨rfl, ⟨nd, rfl⟩⟩; (try first | exact ⟨rfl, _, World.drewN_drewN _ _ _⟩ | exact ⟨rfl, _, Eq.trans (World.drewN_drewN _ _ _) (congrArg (World.drewN _) (Nat.add_assoc _ _ _))⟩)))
         repeat (go_quiet (fail); try go_wp2_with (first | (go_at_call 47; (with_reducible refine (spec_A2Same.calls k1 _ _ t235 _ _ t239 true _ ?side1 ?side2 ?side3 ?side4 A19.out).mono ?_); (case side1 => repeat (first | exact (Kd.R_reads' HO238.out).2.2 | (with_reducible refine Kd.C_alloc ?_ _) | (with_reducible refine Kd.C_drewN ?_ _) | (with_reducible refine Kd.C_drew ?_))); (case side2 => exact (Kd.R_reads' HO238.out).2.1); (case side3 => repeat (first | exact (Kd.R_reads' HO242.out).2.2 | (with_reducible refine Kd.C_alloc ?_ _) | (with_reducible refine Kd.C_drewN ?_ _) | (with_reducible refine Kd.C_drew ?_))); (case side4 => exact (Kd.R_reads' HO242.out).2.1); rintro e w' ⟨rfl, ⟨nd, rfl⟩⟩; (try first | exact ⟨rfl, _, World.drewN_drewN _ _ _⟩ | exact ⟨rfl, _, Eq.trans (World.drewN_drewN _ _ _) (congrArg (World.drewN _) (Nat.add_assoc _ _ _))⟩))))
         go_meet
         case rel => exact ⟨_, (((t236 == 4) != false)), (by first | rfl | (simp; done) | (simp [*]; done)), H', ⟨by have := HK1.out; first | omega | exact Nat.le_refl _⟩, ⟨by (with_reducible repeat (first | apply Kd.R_alloc | apply Kd.R_drewN | apply Kd.R_drew)); exact Kd.R_mono HO_5.out (fun _ hk => hk.2)⟩, ⟨by (with_reducible repeat (first | apply Kd.R_alloc | apply Kd.R_drewN | apply Kd.R_drew)); exact Kd.R_mono HO242.out (fun _ hk => hk.1.2)⟩, ⟨by repeat (first | (with_reducible first | exact HB.out | apply below_alloc | apply pw_below_drewN | apply below_drew1) | exact HB.out)⟩⟩
       ·as_aux_lemma =>
        replace c20 := Bool.eq_false_iff.mpr c20
        subst c20
        have H1 : (laws_FnShares.j1 k1 l1 t229 (wrap64 (t232 + (wrap64 (7 * t233)))) x7_1 t236 t239 true) = some r := by rw [if_neg (show ¬ (false = true) by decide)] at H; exact H
        clear H
        have H := H1
        clear H1
        have H' := Aside0.mk H
        clear H
        obtain ⟨Ao26, co26, eo26⟩ := Kd.R_slice HO238.out
        subst eo26
        obtain ⟨Ao27, co27, eo27⟩ := Kd.R_slice HO242.out
        subst eo27
        go_wp2_with (first | (go_at_call 47; (with_reducible refine (spec_A2Same.calls k1 _ _ t235 _ _ t239 false _ ?side1 ?side2 ?side3 ?side4 A19.out).mono ?_); (case side1 => repeat (first | exact (Kd.R_reads' HO238.out).2.2 | (with_reducible refine Kd.C_alloc ?_ _) | (with_reducible refine Kd.C_drewN ?_ _) | (with_reducible refine Kd.C_drew ?_))); (case side2 => exact (Kd.R_reads' HO238.out).2.1); (case side3 => repeat (first | exact (Kd.R_reads' HO242.out).2.2 | (with_reducible refine Kd.C_alloc ?_ _) | (with_reducible refine Kd.C_drewN ?_ _) | (with_reducible refine Kd.C_drew ?_))); (case side4 => exact (Kd.R_reads' HO242.out).2.1); rintro e w' ⟨rfl, ⟨nd, rfl⟩⟩; (try first | exact ⟨rfl, _, World.drewN_drewN _ _ _⟩ | exact ⟨rfl, _, Eq.trans (World.drewN_drewN _ _ _) (congrArg (World.drewN _) (Nat.add_assoc _ _ _))⟩)))
        repeat (go_quiet (fail); try go_wp2_with (first | (go_at_call 47; (with_reducible refine (spec_A2Same.calls k1 _ _ t235 _ _ t239 false _ ?side1 ?side2 ?side3 ?side4 A19.out).mono ?_); (case side1 => repeat (first | exact (Kd.R_reads' HO238.out).2.2 | (with_reducible refine Kd.C_alloc ?_ _) | (with_reducible refine Kd.C_drewN ?_ _) | (with_reducible refine Kd.C_drew ?_))); (case side2 => exact (Kd.R_reads' HO238.out).2.1); (case side3 => repeat (first | exact (Kd.R_reads' HO242.out).2.2 | (with_reducible refine Kd.C_alloc ?_ _) | (with_reducible refine Kd.C_drewN ?_ _) | (with_reducible refine Kd.C_drew ?_))); (case side4 => exact (Kd.R_reads' HO242.out).2.1); rintro e w' ⟨rfl, ⟨nd, rfl⟩⟩; (try first | exact ⟨rfl, _, World.drewN_drewN _ _ _⟩ | exact ⟨rfl, _, Eq.trans (World.drewN_drewN _ _ _) (congrArg (World.drewN _) (Nat.add_assoc _ _ _))⟩))))
        go_meet
        case rel => exact ⟨_, (true), (by first | rfl | (simp; done) | (simp [*]; done)), H', ⟨by have := HK1.out; first | omega | exact Nat.le_refl _⟩, ⟨by (with_reducible repeat (first | apply Kd.R_alloc | apply Kd.R_drewN | apply Kd.R_drew)); exact Kd.R_mono HO_5.out (fun _ hk => hk.2)⟩, ⟨by (with_reducible repeat (first | apply Kd.R_alloc | apply Kd.R_drewN | apply Kd.R_drew)); exact Kd.R_mono HO242.out (fun _ hk => hk.1.2)⟩, ⟨by repeat (first | (with_reducible first | exact HB.out | apply below_alloc | apply pw_below_drewN | apply below_drew1) | exact HB.out)⟩⟩
      ·rw [if_neg c18] at H
       have c18b0 : (t236 == t240) = false := beq_eq_false_iff_ne.mpr c18
       have c18b1 : (t236 != t240) = true := bne_iff_ne.mpr c18
       (first | rw [c18b0] | (simp only [i64_w, i32_w]; rw [c18b0]) | skip)
       have H' := Aside0.mk H
       clear H
       go_wp2
       repeat (go_quiet (fail); try go_wp2)
       go_meet
       case rel => exact ⟨_, (true), (by first | rfl | (simp; done) | (simp [*]; done)), H', ⟨by have := HK1.out; first | omega | exact Nat.le_refl _⟩, ⟨by (with_reducible repeat (first | apply Kd.R_alloc | apply Kd.R_drewN | apply Kd.R_drew)); exact Kd.R_mono HO_5.out (fun _ hk => hk.2)⟩, ⟨by (with_reducible repeat (first | apply Kd.R_alloc | apply Kd.R_drewN | apply Kd.R_drew)); exact Kd.R_mono HO242.out (fun _ hk => hk.1.2)⟩, ⟨by repeat (first | (with_reducible first | exact HB.out | apply below_alloc | apply pw_below_drewN | apply below_drew1) | exact HB.out)⟩⟩
     case rest => as_aux_lemma =>
      clear HC14
      try clear c1
      try clear c2
      try clear p2
      try clear q2
      try clear hx2
      try clear c4
      try clear p6
      try clear c9
      try clear c9b0
      try clear c10
      try clear c10b0
      try clear c14
      try clear c18
      try clear c18b0
      try clear c18b1
      try clear c20
      try clear c21
      try clear c21b0
      try clear c21b1
      try clear p23
      try clear q23
      try clear hx23
      try clear hx234_0
      try clear p2
      try clear p234
      try clear p6
      try clear q234
      obtain ⟨kq, x87_13, rfl, HA, HJ13, HO_5, HO_11, HB⟩ := hcut
      cases kq with
      | zero => exact absurd HA.out (by simp [laws_FnShares.j1])
      | succ kj13 =>
       have H := HA.out
       clear HA
       simp only [laws_FnShares.j1] at H
       by_cases c28 : x87_13 = true
       ·as_aux_lemma =>
        subst c28
        have H1 : (some false) = some r := by rw [if_pos rfl] at H; exact H
        clear H
        have H := H1
        clear H1
        obtain rfl := Option.some.inj H
        go_wp2
        repeat (go_quiet (fail); try go_wp2)
        go_ret
        exact ⟨by first | rfl | (simp [errW_none, errW_some] <;> rfl) | (simp [*, errW_none, errW_some] <;> rfl), by repeat (first | (with_reducible first | exact HB.out | apply below_alloc | apply pw_below_drewN | apply below_drew1) | exact HB.out)⟩
       ·as_aux_lemma =>
        replace c28 := Bool.eq_false_iff.mpr c28
        subst c28
        have H1 : (if t236 = 0 then ((impl_CheckShares.f kj13 t229 (wrap64 (t232 + (wrap64 (7 * t233)))) t239).bind fun bt244 => (if bt244.2 = 0 then (if bt244.1 = true then (laws_FnShares.j2 kj13 l1 t229 (wrap64 (t232 + (wrap64 (7 * t233)))) x7_1 t239 0 ((t239.length : Int) != (t229.length : Int))) else (laws_FnShares.j2 kj13 l1 t229 (wrap64 (t232 + (wrap64 (7 * t233)))) x7_1 t239 0 true)) else (laws_FnShares.j2 kj13 l1 t229 (wrap64 (t232 + (wrap64 (7 * t233)))) x7_1 t239 0 true))) else (laws_FnShares.j6 kj13 t229 (wrap64 (t232 + (wrap64 (7 * t233)))) x7_1)) = some r := by rw [if_neg (show ¬ (false = true) by decide)] at H; exact H
        clear H
        have H := H1
        clear H1
        have HC29 := Aside0.mk H
        clear H
        go_upto_if 89 with (fail)
        repeat (go_quiet (fail); go_upto_if 89 with (fail))
        go_cut [] (fun wc => ∃ (kq : Nat) (x5_28 : List Int), Aside0 (laws_FnShares.j6 kq x5_28 (wrap64 (t232 + (wrap64 (7 * t233)))) x7_1 = some r) ∧ Aside0 (kq ≤ kj13) ∧ Aside0 (Kd.R (Kd.int .i64) 2 wc w.heap.size (fun _ => True) (.slice Ao15 t229.length co15) x5_28) ∧ Aside0 (Below w.heap.size w wc))
        case first => as_aux_lemma =>
         have H := HC29.out
         clear HC29
         by_cases c30 : t236 = 0
         ·rw [if_pos c30] at H
          have c30b0 : (t236 == 0) = true := beq_iff_eq.mpr c30
          have c30b1 : (t236 != 0) = false := bne_eq_false_iff_eq.mpr c30
          clear c30
          (first | rw [c30b0] | (simp only [i64_w, i32_w]; rw [c30b0]) | skip)
          replace H := Option.bind_eq_some_iff.mp H
          obtain ⟨⟨t244, t245⟩, A310, H⟩ := H
          replace H : (if t245 = 0 then (if t244 = true then (laws_FnShares.j2 kj13 l1 t229 (wrap64 (t232 + (wrap64 (7 * t233)))) x7_1 t239 0 ((t239.length : Int) != (t229.length : Int))) else (laws_FnShares.j2 kj13 l1 t229 (wrap64 (t232 + (wrap64 (7 * t233)))) x7_1 t239 0 true)) else (laws_FnShares.j2 kj13 l1 t229 (wrap64 (t232 + (wrap64 (7 * t233)))) x7_1 t239 0 true)) = some r := H
          have A31 := Aside0.mk A310
          clear A310
          have HC32 := Aside0.mk H
          clear H
          obtain ⟨Ao33, co33, eo33⟩ := Kd.R_slice HO_11.out
          subst eo33
          go_upto_region 17 with (first | (go_at_call 31; (with_reducible refine (impl_CheckShares.calls kj13 _ _ t229 (wrap64 (t232 + (wrap64 (7 * t233)))) _ _ t239 t244 t245 _ ?side1 ?side2 ?side3 ?side4 A31.out).mono ?_); (case side1 => repeat (first | exact (Kd.R_reads' HO_5.out).2.2 | (with_reducible refine Kd.C_alloc ?_ _) | (with_reducible refine Kd.C_drewN ?_ _) | (with_reducible refine Kd.C_drew ?_))); (case side2 => exact (Kd.R_reads' HO_5.out).2.1); (case side3 => repeat (first | exact (Kd.R_reads' HO_11.out).2.2 | (with_reducible refine Kd.C_alloc ?_ _) | (with_reducible refine Kd.C_drewN ?_ _) | (with_reducible refine Kd.C_drew ?_))); (case side4 => exact (Kd.R_reads' HO_11.out).2.1); rintro e w34 ⟨rfl, hb⟩; have n0_ := Aside0.mk (Kd.R_below (by (with_reducible repeat (first | apply Kd.R_alloc | apply Kd.R_drewN | apply Kd.R_drew)); exact HO_5.out) hb); have n1_ := Aside0.mk (Kd.R_below (by (with_reducible repeat (first | apply Kd.R_alloc | apply Kd.R_drewN | apply Kd.R_drew)); exact HO_11.out) hb); have n2_ := Aside0.mk (below_step (by repeat (first | (with_reducible first | exact HB.out | apply below_alloc | apply pw_below_drewN | apply below_drew1) | exact HB.out)) hb); clear HO_5; clear HO_11; clear HB; have HO_5 := n0_; have HO_11 := n1_; have HB := n2_; clear n0_ n1_ n2_; (try clear hb); (try clear hb2); (try clear hk); (try clear hi)))
          repeat (go_quiet (fail); go_upto_region 17 with (first | (go_at_call 31; (with_reducible refine (impl_CheckShares.calls kj13 _ _ t229 (wrap64 (t232 + (wrap64 (7 * t233)))) _ _ t239 t244 t245 _ ?side1 ?side2 ?side3 ?side4 A31.out).mono ?_); (case side1 => repeat (first | exact (Kd.R_reads' HO_5.out).2.2 | (with_reducible refine Kd.C_alloc ?_ _) | (with_reducible refine Kd.C_drewN ?_ _) | (with_reducible refine Kd.C_drew ?_))); (case side2 => exact (Kd.R_reads' HO_5.out).2.1); (case side3 => repeat (first | exact (Kd.R_reads' HO_11.out).2.2 | (with_reducible refine Kd.C_alloc ?_ _) | (with_reducible refine Kd.C_drewN ?_ _) | (with_reducible refine Kd.C_drew ?_))); (case side4 => exact (Kd.R_reads' HO_11.out).2.1); rintro e w34 ⟨rfl, hb⟩; have n0_ := Aside0.mk (Kd.R_below (by (with_reducible repeat (first | apply Kd.R_alloc | apply Kd.R_drewN | apply Kd.R_drew)); exact HO_5.out) hb); have n1_ := Aside0.mk (Kd.R_below (by (with_reducible repeat (first | apply Kd.R_alloc | apply Kd.R_drewN | apply Kd.R_drew)); exact HO_11.out) hb); have n2_ := Aside0.mk (below_step (by repeat (first | (with_reducible first | exact HB.out | apply below_alloc | apply pw_below_drewN | apply below_drew1) | exact HB.out)) hb); clear HO_5; clear HO_11; clear HB; have HO_5 := n0_; have HO_11 := n1_; have HB := n2_; clear n0_ n1_ n2_; (try clear hb); (try clear hb2); (try clear hk); (try clear hi))))
          (try simp only [Act.put, List.setIfInBounds_toArray, List.set_cons_zero, List.set_cons_succ])
          go_cut [109] (fun v109 wc => ∃ (kq : Nat) (x109_31 : Bool), v109 = .bool x109_31 ∧ Aside0 (laws_FnShares.j2 kq l1 t229 (wrap64 (t232 + (wrap64 (7 * t233)))) x7_1 t239 0 x109_31 = some r) ∧ Aside0 (kq ≤ kj13) ∧ Aside0 (Kd.R (Kd.int .i64) 2 wc w.heap.size (fun k_ => some k_ ≠ ((.slice Ao33 t239.length co33) : Value).ownBlock) (.slice Ao15 t229.length co15) t229) ∧ Aside0 (Kd.R (Kd.int .i64) 2 wc w.heap.size (fun k_ => some k_ ≠ ((.slice Ao15 t229.length co15) : Value).ownBlock) (.slice Ao33 t239.length co33) t239) ∧ Aside0 (Below w.heap.size w wc))
          case first => as_aux_lemma =>
           have H := HC32.out
           clear HC32
           by_cases c35 : t245 = 0
           ·rw [if_pos c35] at H
            have c35b0 : (t245 == 0) = true := beq_iff_eq.mpr c35
            have c35b1 : (t245 != 0) = false := bne_eq_false_iff_eq.mpr c35
            clear c35
            (first | rw [c35b0] | (simp only [i64_w, i32_w]; rw [c35b0]) | skip)
            by_cases c36 : t244 = true
            ·as_aux_lemma =>
             subst c36
             have H1 : (laws_FnShares.j2 kj13 l1 t229 (wrap64 (t232 + (wrap64 (7 * t233)))) x7_1 t239 0 ((t239.length : Int) != (t229.length : Int))) = some r := by rw [if_pos rfl] at H; exact H
             clear H
             have H := H1
             clear H1
             have H' := Aside0.mk H
             clear H
             go_wp2
             repeat (go_quiet (fail); try go_wp2)
             go_meet
             case rel => exact ⟨_, (((t239.length : Int) != (t229.length : Int))), (by first | rfl | (simp; done) | (simp [*]; done)), H', ⟨by have := HK1.out; have := HJ13.out; first | omega | exact Nat.le_refl _⟩, ⟨by (with_reducible repeat (first | apply Kd.R_alloc | apply Kd.R_drewN | apply Kd.R_drew)); exact HO_5.out⟩, ⟨by (with_reducible repeat (first | apply Kd.R_alloc | apply Kd.R_drewN | apply Kd.R_drew)); exact HO_11.out⟩, ⟨by repeat (first | (with_reducible first | exact HB.out | apply below_alloc | apply pw_below_drewN | apply below_drew1) | exact HB.out)⟩⟩
            ·as_aux_lemma =>
             replace c36 := Bool.eq_false_iff.mpr c36
             subst c36
             have H1 : (laws_FnShares.j2 kj13 l1 t229 (wrap64 (t232 + (wrap64 (7 * t233)))) x7_1 t239 0 true) = some r := by rw [if_neg (show ¬ (false = true) by decide)] at H; exact H
             clear H
             have H := H1
             clear H1
             have H' := Aside0.mk H
             clear H
             go_wp2
             repeat (go_quiet (fail); try go_wp2)
             go_meet
             case rel => exact ⟨_, (true), (by first | rfl | (simp; done) | (simp [*]; done)), H', ⟨by have := HK1.out; have := HJ13.out; first | omega | exact Nat.le_refl _⟩, ⟨by (with_reducible repeat (first | apply Kd.R_alloc | apply Kd.R_drewN | apply Kd.R_drew)); exact HO_5.out⟩, ⟨by (with_reducible repeat (first | apply Kd.R_alloc | apply Kd.R_drewN | apply Kd.R_drew)); exact HO_11.out⟩, ⟨by repeat (first | (with_reducible first | exact HB.out | apply below_alloc | apply pw_below_drewN | apply below_drew1) | exact HB.out)⟩⟩
           ·rw [if_neg c35] at H
            have c35b0 : (t245 == 0) = false := beq_eq_false_iff_ne.mpr c35
            have c35b1 : (t245 != 0) = true := bne_iff_ne.mpr c35
            (first | rw [c35b0] | (simp only [i64_w, i32_w]; rw [c35b0]) | skip)
            have H' := Aside0.mk H
            clear H
            go_wp2
            repeat (go_quiet (fail); try go_wp2)
            go_meet
            case rel => exact ⟨_, (true), (by first | rfl | (simp; done) | (simp [*]; done)), H', ⟨by have := HK1.out; have := HJ13.out; first | omega | exact Nat.le_refl _⟩, ⟨by (with_reducible repeat (first | apply Kd.R_alloc | apply Kd.R_drewN | apply Kd.R_drew)); exact HO_5.out⟩, ⟨by (with_reducible repeat (first | apply Kd.R_alloc | apply Kd.R_drewN | apply Kd.R_drew)); exact HO_11.out⟩, ⟨by repeat (first | (with_reducible first | exact HB.out | apply below_alloc | apply pw_below_drewN | apply below_drew1) | exact HB.out)⟩⟩
          case rest => as_aux_lemma =>
           clear HC32
           try clear c1
           try clear c2
           try clear p2
           try clear q2
           try clear hx2
           try clear c3
           try clear c4
           try clear p6
           try clear c9
           try clear c9b0
           try clear c10
           try clear c10b0
           try clear c14
           try clear c18
           try clear c18b0
           try clear c18b1
           try clear c20
           try clear c21
           try clear c21b0
           try clear c21b1
           try clear p23
           try clear q23
           try clear hx23
           try clear c28
           try clear c30
           try clear c30b0
           try clear c30b1
           try clear c35
           try clear c35b0
           try clear c35b1
           try clear c36
           try clear hx234_0
           try clear p2
           try clear p23
           try clear p234
           try clear p6
           try clear q2
           try clear q23
           try clear q234
           obtain ⟨kq, x109_31, rfl, HA, HJ31, HO_5, HO_11, HB⟩ := hcut
           cases kq with
           | zero => exact absurd HA.out (by simp [laws_FnShares.j2])
           | succ kj31 =>
            have H := HA.out
            clear HA
            simp only [laws_FnShares.j2] at H
            by_cases c37 : x109_31 = true
            ·as_aux_lemma =>
             subst c37
             have H1 : (some false) = some r := by rw [if_pos rfl] at H; exact H
             clear H
             have H := H1
             clear H1
             obtain rfl := Option.some.inj H
             go_wp2
             repeat (go_quiet (fail); try go_wp2)
             go_ret
             exact ⟨by first | rfl | (simp [errW_none, errW_some] <;> rfl) | (simp [*, errW_none, errW_some] <;> rfl), by repeat (first | (with_reducible first | exact HB.out | apply below_alloc | apply pw_below_drewN | apply below_drew1) | exact HB.out)⟩
            ·as_aux_lemma =>
             replace c37 := Bool.eq_false_iff.mpr c37
             subst c37
             have H1 : (laws_FnShares.l1 kj31 l1 t229 (wrap64 (t232 + (wrap64 (7 * t233)))) x7_1 t239 0 0) = some r := by rw [if_neg (show ¬ (false = true) by decide)] at H; exact H
             clear H
             have H := H1
             clear H1
             have H' := Aside0.mk H
             clear H
             go_wp2
             repeat (go_quiet (fail); try go_wp2)
             go_loopg [15, 16] kj31 (fun kq v15 v16 w' => ∃ (x15_4 : Int) (x16_4 : Int), v15 = .int .i64 x15_4 ∧ v16 = .int .i64 x16_4 ∧ Aside0 (laws_FnShares.l1 kq l1 t229 (wrap64 (t232 + (wrap64 (7 * t233)))) x7_1 t239 x15_4 x16_4 = some r) ∧ Aside0 (kq ≤ kj31) ∧ Aside0 (Kd.R (Kd.int .i64) 2 w' w.heap.size (fun k_ => some k_ ≠ ((.slice Ao33 t239.length co33) : Value).ownBlock) (.slice Ao15 t229.length co15) t229) ∧ Aside0 (Kd.R (Kd.int .i64) 2 w' w.heap.size (fun k_ => some k_ ≠ ((.slice Ao15 t229.length co15) : Value).ownBlock) (.slice Ao33 t239.length co33) t239) ∧ Aside0 (Below w.heap.size w w'))
             case atStart => exact ⟨(0), (0), (by first | rfl | (simp; done) | (simp [*]; done)), (by first | rfl | (simp; done) | (simp [*]; done)), H', ⟨Nat.le_refl _⟩, ⟨by (with_reducible repeat (first | apply Kd.R_alloc | apply Kd.R_drewN | apply Kd.R_drew)); exact HO_5.out⟩, ⟨by (with_reducible repeat (first | apply Kd.R_alloc | apply Kd.R_drewN | apply Kd.R_drew)); exact HO_11.out⟩, ⟨by repeat (first | (with_reducible first | exact HB.out | apply below_alloc | apply pw_below_drewN | apply below_drew1) | exact HB.out)⟩⟩
             case round => as_aux_lemma =>
              clear H'
              try clear c1
              try clear c2
              try clear p2
              try clear q2
              try clear hx2
              try clear c3
              try clear c4
              try clear p6
              try clear c9
              try clear c9b0
              try clear c10
              try clear c10b0
              try clear c14
              try clear c18
              try clear c18b0
              try clear c18b1
              try clear c20
              try clear c21
              try clear c21b0
              try clear c21b1
              try clear p23
              try clear q23
              try clear hx23
              try clear c28
              try clear c30
              try clear c30b0
              try clear c30b1
              try clear c35
              try clear c35b0
              try clear c35b1
              try clear c36
              try clear c37
              try clear hx234_0
              try clear p2
              try clear p23
              try clear p234
              try clear p6
              try clear q2
              try clear q23
              try clear q234
              obtain ⟨x15_4, x16_4, rfl, rfl, HA, HK4, HO_5, HO_11, HB⟩ := hrel
              cases gk with
              | zero => exact absurd HA.out (by simp [laws_FnShares.l1])
              | succ k4 =>
               have H := HA.out
               clear HA
               simp only [laws_FnShares.l1] at H
               by_cases c38 : x16_4 < (t239.length : Int)
               ·rw [if_pos c38] at H
                have c38b0 : decide (x16_4 < (t239.length : Int)) = true := decide_eq_true c38
                clear c38
                have HC39 := Aside0.mk H
                clear H
                go_upto_region 22 with (fail)
                repeat (go_quiet (fail); go_upto_region 22 with (fail))
                go_cut [162] (fun v162 wc => ∃ (kq : Nat) (x162_38 : Bool), v162 = .bool x162_38 ∧ Aside0 (laws_FnShares.j4 kq l1 t229 (wrap64 (t232 + (wrap64 (7 * t233)))) x7_1 t239 x15_4 x16_4 x162_38 = some r) ∧ Aside0 (kq ≤ k4) ∧ Aside0 (Kd.R (Kd.int .i64) 2 wc w.heap.size (fun k_ => some k_ ≠ ((.slice Ao33 t239.length co33) : Value).ownBlock) (.slice Ao15 t229.length co15) t229) ∧ Aside0 (Kd.R (Kd.int .i64) 2 wc w.heap.size (fun k_ => some k_ ≠ ((.slice Ao15 t229.length co15) : Value).ownBlock) (.slice Ao33 t239.length co33) t239) ∧ Aside0 (Below w.heap.size w wc))
                case first => as_aux_lemma =>
                 have H := HC39.out
                 clear HC39
                 by_cases c40 : x7_1 > 0
                 ·rw [if_pos c40] at H
                  have c40b0 : decide (0 < x7_1) = true := decide_eq_true c40
                  clear c40
                  (first | rw [c40b0] | (simp only [i64_w, i32_w]; rw [c40b0]) | skip)
                  by_cases c41 : 0 ≤ x16_4
                  ·rw [if_pos c41] at H
                   have c41b0 : decide (0 ≤ x16_4) = true := decide_eq_true c41
                   clear c41
                   by_cases c42 : x16_4 < (t229.length : Int)
                   ·rw [if_pos c42] at H
                    have c42b0 : decide (x16_4 < (t229.length : Int)) = true := decide_eq_true c42
                    clear c42
                    by_cases c43 : (wrap64 ((rd t239 x16_4) * x7_1)) ≤ (wrap64 ((wrap64 ((wrap64 (t232 + (wrap64 (7 * t233)))) * (rd t229 x16_4))) - x7_1))
                    ·rw [if_pos c43] at H
                     have c43b0 : decide ((wrap64 ((rd t239 x16_4) * x7_1)) ≤ (wrap64 ((wrap64 ((wrap64 (t232 + (wrap64 (7 * t233)))) * (rd t229 x16_4))) - x7_1))) = true := decide_eq_true c43
                     clear c43
                     have H' := Aside0.mk H
                     clear H
                     have p246 : 0 ≤ (x16_4 : Int) := of_decide_eq_true (by first | (with_reducible assumption) | assumption)
                     have q246 : x16_4 < (t239.length : Int) := of_decide_eq_true (by first | (with_reducible assumption) | assumption)
                     obtain ⟨ad246, e246, hx246_0⟩ := Kd.at_int (Kd.R_reads' HO_11.out).2.2 x16_4 p246 q246
                     cases e246
                     replace p246 := eq_true p246
                     replace q246 := eq_true q246
                     have p247 : 0 ≤ (x16_4 : Int) := of_decide_eq_true (by first | (with_reducible assumption) | assumption)
                     have q247 : x16_4 < (t229.length : Int) := of_decide_eq_true (by first | (with_reducible assumption) | assumption)
                     obtain ⟨ad247, e247, hx247_0⟩ := Kd.at_int (Kd.R_reads' HO_5.out).2.2 x16_4 p247 q247
                     cases e247
                     replace p247 := eq_true p247
                     replace q247 := eq_true q247
                     go_wp2
                     repeat (go_quiet (fail); try go_wp2)
                     go_meet
                     case rel => exact ⟨_, (true), (by first | rfl | (simp; done) | (simp [*]; done)), H', ⟨by have := HK1.out; have := HJ13.out; have := HJ31.out; have := HK4.out; first | omega | exact Nat.le_refl _⟩, ⟨by (with_reducible repeat (first | apply Kd.R_alloc | apply Kd.R_drewN | apply Kd.R_drew)); exact HO_5.out⟩, ⟨by (with_reducible repeat (first | apply Kd.R_alloc | apply Kd.R_drewN | apply Kd.R_drew)); exact HO_11.out⟩, ⟨by repeat (first | (with_reducible first | exact HB.out | apply below_alloc | apply pw_below_drewN | apply below_drew1) | exact HB.out)⟩⟩
                    ·rw [if_neg c43] at H
                     have c43b0 : decide ((wrap64 ((rd t239 x16_4) * x7_1)) ≤ (wrap64 ((wrap64 ((wrap64 (t232 + (wrap64 (7 * t233)))) * (rd t229 x16_4))) - x7_1))) = false := decide_eq_false c43
                     clear c43
                     by_cases c44 : (wrap64 ((rd t239 x16_4) * x7_1)) ≥ (wrap64 ((wrap64 ((wrap64 (t232 + (wrap64 (7 * t233)))) * (rd t229 x16_4))) + x7_1))
                     ·rw [if_pos c44] at H
                      have c44b0 : decide ((wrap64 ((wrap64 ((wrap64 (t232 + (wrap64 (7 * t233)))) * (rd t229 x16_4))) + x7_1)) ≤ (wrap64 ((rd t239 x16_4) * x7_1))) = true := decide_eq_true c44
                      clear c44
                      have H' := Aside0.mk H
                      clear H
                      have p246 : 0 ≤ (x16_4 : Int) := of_decide_eq_true (by first | (with_reducible assumption) | assumption)
                      have q246 : x16_4 < (t239.length : Int) := of_decide_eq_true (by first | (with_reducible assumption) | assumption)
                      obtain ⟨ad246, e246, hx246_0⟩ := Kd.at_int (Kd.R_reads' HO_11.out).2.2 x16_4 p246 q246
                      cases e246
                      replace p246 := eq_true p246
                      replace q246 := eq_true q246
                      have p247 : 0 ≤ (x16_4 : Int) := of_decide_eq_true (by first | (with_reducible assumption) | assumption)
                      have q247 : x16_4 < (t229.length : Int) := of_decide_eq_true (by first | (with_reducible assumption) | assumption)
                      obtain ⟨ad247, e247, hx247_0⟩ := Kd.at_int (Kd.R_reads' HO_5.out).2.2 x16_4 p247 q247
                      cases e247
                      replace p247 := eq_true p247
                      replace q247 := eq_true q247
                      have p248 : 0 ≤ (x16_4 : Int) := of_decide_eq_true (by first | (with_reducible assumption) | assumption)
                      have q248 : x16_4 < (t239.length : Int) := of_decide_eq_true (by first | (with_reducible assumption) | assumption)
                      obtain ⟨ad248, e248, hx248_0⟩ := Kd.at_int (Kd.R_reads' HO_11.out).2.2 x16_4 p248 q248
                      obtain rfl : ad246 = ad248 := (by injection e248)
                      replace p248 := eq_true p248
                      replace q248 := eq_true q248
                      have p249 : 0 ≤ (x16_4 : Int) := of_decide_eq_true (by first | (with_reducible assumption) | assumption)
                      have q249 : x16_4 < (t229.length : Int) := of_decide_eq_true (by first | (with_reducible assumption) | assumption)
                      obtain ⟨ad249, e249, hx249_0⟩ := Kd.at_int (Kd.R_reads' HO_5.out).2.2 x16_4 p249 q249
                      obtain rfl : ad247 = ad249 := (by injection e249)
                      replace p249 := eq_true p249
                      replace q249 := eq_true q249
                      go_wp2
                      repeat (go_quiet (fail); try go_wp2)
                      go_meet
                      case rel => exact ⟨_, (true), (by first | rfl | (simp; done) | (simp [*]; done)), H', ⟨by have := HK1.out; have := HJ13.out; have := HJ31.out; have := HK4.out; first | omega | exact Nat.le_refl _⟩, ⟨by (with_reducible repeat (first | apply Kd.R_alloc | apply Kd.R_drewN | apply Kd.R_drew)); exact HO_5.out⟩, ⟨by (with_reducible repeat (first | apply Kd.R_alloc | apply Kd.R_drewN | apply Kd.R_drew)); exact HO_11.out⟩, ⟨by repeat (first | (with_reducible first | exact HB.out | apply below_alloc | apply pw_below_drewN | apply below_drew1) | exact HB.out)⟩⟩
                     ·rw [if_neg c44] at H
                      have c44b0 : decide ((wrap64 ((wrap64 ((wrap64 (t232 + (wrap64 (7 * t233)))) * (rd t229 x16_4))) + x7_1)) ≤ (wrap64 ((rd t239 x16_4) * x7_1))) = false := decide_eq_false c44
                      clear c44
                      by_cases c45 : x7_1 = 0
                      ·rw [if_pos c45] at H
                       have c45b0 : (x7_1 == 0) = true := beq_iff_eq.mpr c45
                       have c45b1 : (x7_1 != 0) = false := bne_eq_false_iff_eq.mpr c45
                       clear c45
                       have H' := Aside0.mk H
                       clear H
                       have p246 : 0 ≤ (x16_4 : Int) := of_decide_eq_true (by first | (with_reducible assumption) | assumption)
                       have q246 : x16_4 < (t239.length : Int) := of_decide_eq_true (by first | (with_reducible assumption) | assumption)
                       obtain ⟨ad246, e246, hx246_0⟩ := Kd.at_int (Kd.R_reads' HO_11.out).2.2 x16_4 p246 q246
                       cases e246
                       replace p246 := eq_true p246
                       replace q246 := eq_true q246
                       have p247 : 0 ≤ (x16_4 : Int) := of_decide_eq_true (by first | (with_reducible assumption) | assumption)
                       have q247 : x16_4 < (t229.length : Int) := of_decide_eq_true (by first | (with_reducible assumption) | assumption)
                       obtain ⟨ad247, e247, hx247_0⟩ := Kd.at_int (Kd.R_reads' HO_5.out).2.2 x16_4 p247 q247
                       cases e247
                       replace p247 := eq_true p247
                       replace q247 := eq_true q247
                       have p248 : 0 ≤ (x16_4 : Int) := of_decide_eq_true (by first | (with_reducible assumption) | assumption)
                       have q248 : x16_4 < (t239.length : Int) := of_decide_eq_true (by first | (with_reducible assumption) | assumption)
                       obtain ⟨ad248, e248, hx248_0⟩ := Kd.at_int (Kd.R_reads' HO_11.out).2.2 x16_4 p248 q248
                       obtain rfl : ad246 = ad248 := (by injection e248)
                       replace p248 := eq_true p248
                       replace q248 := eq_true q248
                       have p249 : 0 ≤ (x16_4 : Int) := of_decide_eq_true (by first | (with_reducible assumption) | assumption)
                       have q249 : x16_4 < (t229.length : Int) := of_decide_eq_true (by first | (with_reducible assumption) | assumption)
                       obtain ⟨ad249, e249, hx249_0⟩ := Kd.at_int (Kd.R_reads' HO_5.out).2.2 x16_4 p249 q249
                       obtain rfl : ad247 = ad249 := (by injection e249)
                       replace p249 := eq_true p249
                       replace q249 := eq_true q249
                       have p250 : 0 ≤ (x16_4 : Int) := of_decide_eq_true (by first | (with_reducible assumption) | assumption)
                       have q250 : x16_4 < (t239.length : Int) := of_decide_eq_true (by first | (with_reducible assumption) | assumption)
                       obtain ⟨ad250, e250, hx250_0⟩ := Kd.at_int (Kd.R_reads' HO_11.out).2.2 x16_4 p250 q250
                       obtain rfl : ad246 = ad250 := (by injection e250)
                       replace p250 := eq_true p250
                       replace q250 := eq_true q250
                       go_wp2
                       repeat (go_quiet (fail); try go_wp2)
                       go_meet
                       case rel => exact ⟨_, (((rd t239 x16_4) != 0)), (by first | rfl | (simp; done) | (simp [*]; done)), H', ⟨by have := HK1.out; have := HJ13.out; have := HJ31.out; have := HK4.out; first | omega | exact Nat.le_refl _⟩, ⟨by (with_reducible repeat (first | apply Kd.R_alloc | apply Kd.R_drewN | apply Kd.R_drew)); exact HO_5.out⟩, ⟨by (with_reducible repeat (first | apply Kd.R_alloc | apply Kd.R_drewN | apply Kd.R_drew)); exact HO_11.out⟩, ⟨by repeat (first | (with_reducible first | exact HB.out | apply below_alloc | apply pw_below_drewN | apply below_drew1) | exact HB.out)⟩⟩
                      ·rw [if_neg c45] at H
                       have c45b0 : (x7_1 == 0) = false := beq_eq_false_iff_ne.mpr c45
                       have c45b1 : (x7_1 != 0) = true := bne_iff_ne.mpr c45
                       have H' := Aside0.mk H
                       clear H
                       have p246 : 0 ≤ (x16_4 : Int) := of_decide_eq_true (by first | (with_reducible assumption) | assumption)
                       have q246 : x16_4 < (t239.length : Int) := of_decide_eq_true (by first | (with_reducible assumption) | assumption)
                       obtain ⟨ad246, e246, hx246_0⟩ := Kd.at_int (Kd.R_reads' HO_11.out).2.2 x16_4 p246 q246
                       cases e246
                       replace p246 := eq_true p246
                       replace q246 := eq_true q246
                       have p247 : 0 ≤ (x16_4 : Int) := of_decide_eq_true (by first | (with_reducible assumption) | assumption)
                       have q247 : x16_4 < (t229.length : Int) := of_decide_eq_true (by first | (with_reducible assumption) | assumption)
                       obtain ⟨ad247, e247, hx247_0⟩ := Kd.at_int (Kd.R_reads' HO_5.out).2.2 x16_4 p247 q247
                       cases e247
                       replace p247 := eq_true p247
                       replace q247 := eq_true q247
                       have p248 : 0 ≤ (x16_4 : Int) := of_decide_eq_true (by first | (with_reducible assumption) | assumption)
                       have q248 : x16_4 < (t239.length : Int) := of_decide_eq_true (by first | (with_reducible assumption) | assumption)
                       obtain ⟨ad248, e248, hx248_0⟩ := Kd.at_int (Kd.R_reads' HO_11.out).2.2 x16_4 p248 q248
                       obtain rfl : ad246 = ad248 := (by injection e248)
                       replace p248 := eq_true p248
                       replace q248 := eq_true q248
                       have p249 : 0 ≤ (x16_4 : Int) := of_decide_eq_true (by first | (with_reducible assumption) | assumption)
                       have q249 : x16_4 < (t229.length : Int) := of_decide_eq_true (by first | (with_reducible assumption) | assumption)
                       obtain ⟨ad249, e249, hx249_0⟩ := Kd.at_int (Kd.R_reads' HO_5.out).2.2 x16_4 p249 q249
                       obtain rfl : ad247 = ad249 := (by injection e249)
                       replace p249 := eq_true p249
                       replace q249 := eq_true q249
                       go_wp2
                       repeat (go_quiet (fail); try go_wp2)
                       go_meet
                       case rel => exact ⟨_, (false), (by first | rfl | (simp; done) | (simp [*]; done)), H', ⟨by have := HK1.out; have := HJ13.out; have := HJ31.out; have := HK4.out; first | omega | exact Nat.le_refl _⟩, ⟨by (with_reducible repeat (first | apply Kd.R_alloc | apply Kd.R_drewN | apply Kd.R_drew)); exact HO_5.out⟩, ⟨by (with_reducible repeat (first | apply Kd.R_alloc | apply Kd.R_drewN | apply Kd.R_drew)); exact HO_11.out⟩, ⟨by repeat (first | (with_reducible first | exact HB.out | apply below_alloc | apply pw_below_drewN | apply below_drew1) | exact HB.out)⟩⟩
                   ·rw [if_neg c42] at H
                    exact absurd H (by simp)
                  ·rw [if_neg c41] at H
                   exact absurd H (by simp)
                 ·rw [if_neg c40] at H
                  have c40b0 : decide (0 < x7_1) = false := decide_eq_false c40
                  clear c40
                  (first | rw [c40b0] | (simp only [i64_w, i32_w]; rw [c40b0]) | skip)
                  by_cases c46 : x7_1 = 0
                  ·rw [if_pos c46] at H
                   have c46b0 : (x7_1 == 0) = true := beq_iff_eq.mpr c46
                   have c46b1 : (x7_1 != 0) = false := bne_eq_false_iff_eq.mpr c46
                   clear c46
                   by_cases c47 : 0 ≤ x16_4
                   ·rw [if_pos c47] at H
                    have c47b0 : decide (0 ≤ x16_4) = true := decide_eq_true c47
                    clear c47
                    have H' := Aside0.mk H
                    clear H
                    have p251 : 0 ≤ (x16_4 : Int) := of_decide_eq_true (by first | (with_reducible assumption) | assumption)
                    have q251 : x16_4 < (t239.length : Int) := of_decide_eq_true (by first | (with_reducible assumption) | assumption)
                    obtain ⟨ad251, e251, hx251_0⟩ := Kd.at_int (Kd.R_reads' HO_11.out).2.2 x16_4 p251 q251
                    cases e251
                    replace p251 := eq_true p251
                    replace q251 := eq_true q251
                    go_wp2
                    repeat (go_quiet (fail); try go_wp2)
                    go_meet
                    case rel => exact ⟨_, (((rd t239 x16_4) != 0)), (by first | rfl | (simp; done) | (simp [*]; done)), H', ⟨by have := HK1.out; have := HJ13.out; have := HJ31.out; have := HK4.out; first | omega | exact Nat.le_refl _⟩, ⟨by (with_reducible repeat (first | apply Kd.R_alloc | apply Kd.R_drewN | apply Kd.R_drew)); exact HO_5.out⟩, ⟨by (with_reducible repeat (first | apply Kd.R_alloc | apply Kd.R_drewN | apply Kd.R_drew)); exact HO_11.out⟩, ⟨by repeat (first | (with_reducible first | exact HB.out | apply below_alloc | apply pw_below_drewN | apply below_drew1) | exact HB.out)⟩⟩
                   ·rw [if_neg c47] at H
                    exact absurd H (by simp)
                  ·rw [if_neg c46] at H
                   have c46b0 : (x7_1 == 0) = false := beq_eq_false_iff_ne.mpr c46
                   have c46b1 : (x7_1 != 0) = true := bne_iff_ne.mpr c46
                   have H' := Aside0.mk H
                   clear H
                   go_wp2
                   repeat (go_quiet (fail); try go_wp2)
                   go_meet
                   case rel => exact ⟨_, (false), (by first | rfl | (simp; done) | (simp [*]; done)), H', ⟨by have := HK1.out; have := HJ13.out; have := HJ31.out; have := HK4.out; first | omega | exact Nat.le_refl _⟩, ⟨by (with_reducible repeat (first | apply Kd.R_alloc | apply Kd.R_drewN | apply Kd.R_drew)); exact HO_5.out⟩, ⟨by (with_reducible repeat (first | apply Kd.R_alloc | apply Kd.R_drewN | apply Kd.R_drew)); exact HO_11.out⟩, ⟨by repeat (first | (with_reducible first | exact HB.out | apply below_alloc | apply pw_below_drewN | apply below_drew1) | exact HB.out)⟩⟩
                case rest => as_aux_lemma =>
                 clear HC39
                 try clear c1
                 try clear c2
                 try clear p2
                 try clear q2
                 try clear hx2
                 try clear c3
                 try clear c4
                 try clear p6
                 try clear c9
                 try clear c9b0
                 try clear c10
                 try clear c10b0
                 try clear c14
                 try clear c18
                 try clear c18b0
                 try clear c18b1
                 try clear c20
                 try clear c21
                 try clear c21b0
                 try clear c21b1
                 try clear p23
                 try clear q23
                 try clear hx23
                 try clear p24
                 try clear q24
                 try clear hx24
                 try clear p25
                 try clear q25
                 try clear hx25
                 try clear c28
                 try clear c30
                 try clear c30b0
                 try clear c30b1
                 try clear c35
                 try clear c35b0
                 try clear c35b1
                 try clear c36
                 try clear c37
                 try clear c38
                 try clear c38b0
                 try clear c40
                 try clear c40b0
                 try clear c41
                 try clear c41b0
                 try clear c42
                 try clear c42b0
                 try clear c43
                 try clear c43b0
                 try clear c44
                 try clear c44b0
                 try clear c45
                 try clear c45b0
                 try clear c45b1
                 try clear c46
                 try clear c46b0
                 try clear c46b1
                 try clear c47
                 try clear c47b0
                 try clear hx234_0
                 try clear hx246_0
                 try clear hx247_0
                 try clear hx248_0
                 try clear hx249_0
                 try clear hx250_0
                 try clear hx251_0
                 try clear p2
                 try clear p23
                 try clear p234
                 try clear p246
                 try clear p247
                 try clear p248
                 try clear p249
                 try clear p250
                 try clear p251
                 try clear p6
                 try clear q2
                 try clear q23
                 try clear q234
                 try clear q246
                 try clear q247
                 try clear q248
                 try clear q249
                 try clear q250
                 try clear q251
                 obtain ⟨kq, x162_38, rfl, HA, HJ38, HO_5, HO_11, HB⟩ := hcut
                 cases kq with
                 | zero => exact absurd HA.out (by simp [laws_FnShares.j4])
                 | succ kj38 =>
                  have H := HA.out
                  clear HA
                  simp only [laws_FnShares.j4] at H
                  by_cases c48 : x162_38 = true
                  ·as_aux_lemma =>
                   subst c48
                   have H1 : (some false) = some r := by rw [if_pos rfl] at H; exact H
                   clear H
                   have H := H1
                   clear H1
                   obtain rfl := Option.some.inj H
                   go_wp2
                   repeat (go_quiet (fail); try go_wp2)
                   go_ret
                   exact ⟨by first | rfl | (simp [errW_none, errW_some] <;> rfl) | (simp [*, errW_none, errW_some] <;> rfl), by repeat (first | (with_reducible first | exact HB.out | apply below_alloc | apply pw_below_drewN | apply below_drew1) | exact HB.out)⟩
                  ·as_aux_lemma =>
                   replace c48 := Bool.eq_false_iff.mpr c48
                   subst c48
                   have H1 : (if 0 ≤ x16_4 then (if x16_4 < (t239.length : Int) then (laws_FnShares.l2 kj38 l1 t229 (wrap64 (t232 + (wrap64 (7 * t233)))) x7_1 t239 (wrap64 (x15_4 + (rd t239 x16_4))) x16_4 0) else (none)) else (none)) = some r := by rw [if_neg (show ¬ (false = true) by decide)] at H; exact H
                   clear H
                   have H := H1
                   clear H1
                   by_cases c49 : 0 ≤ x16_4
                   ·rw [if_pos c49] at H
                    have c49b0 : decide (0 ≤ x16_4) = true := decide_eq_true c49
                    clear c49
                    by_cases c50 : x16_4 < (t239.length : Int)
                    ·rw [if_pos c50] at H
                     have c50b0 : decide (x16_4 < (t239.length : Int)) = true := decide_eq_true c50
                     clear c50
                     have H' := Aside0.mk H
                     clear H
                     have p252 : 0 ≤ (x16_4 : Int) := of_decide_eq_true (by first | (with_reducible assumption) | assumption)
                     have q252 : x16_4 < (t239.length : Int) := of_decide_eq_true (by first | (with_reducible assumption) | assumption)
                     obtain ⟨ad252, e252, hx252_0⟩ := Kd.at_int (Kd.R_reads' HO_11.out).2.2 x16_4 p252 q252
                     cases e252
                     replace p252 := eq_true p252
                     replace q252 := eq_true q252
                     go_wp2
                     repeat (go_quiet (fail); try go_wp2)
                     go_loopg [17] kj38 (fun kq v17 w' => ∃ (x17_6 : Int), v17 = .int .i64 x17_6 ∧ Aside0 (laws_FnShares.l2 kq l1 t229 (wrap64 (t232 + (wrap64 (7 * t233)))) x7_1 t239 (wrap64 (x15_4 + (rd t239 x16_4))) x16_4 x17_6 = some r) ∧ Aside0 (kq ≤ kj38) ∧ Aside0 (Kd.R (Kd.int .i64) 2 w' w.heap.size (fun k_ => some k_ ≠ ((.slice (some ad252) t239.length co33) : Value).ownBlock) (.slice Ao15 t229.length co15) t229) ∧ Aside0 (Kd.R (Kd.int .i64) 2 w' w.heap.size (fun k_ => some k_ ≠ ((.slice Ao15 t229.length co15) : Value).ownBlock) (.slice (some ad252) t239.length co33) t239) ∧ Aside0 (Below w.heap.size w w'))
                     case atStart => exact ⟨(0), (by first | rfl | (simp; done) | (simp [*]; done)), H', ⟨Nat.le_refl _⟩, ⟨by (with_reducible repeat (first | apply Kd.R_alloc | apply Kd.R_drewN | apply Kd.R_drew)); exact HO_5.out⟩, ⟨by (with_reducible repeat (first | apply Kd.R_alloc | apply Kd.R_drewN | apply Kd.R_drew)); exact HO_11.out⟩, ⟨by repeat (first | (with_reducible first | exact HB.out | apply below_alloc | apply pw_below_drewN | apply below_drew1) | exact HB.out)⟩⟩
                     case round => as_aux_lemma =>
                      clear H'
                      try clear c1
                      try clear c2
                      try clear p2
                      try clear q2
                      try clear hx2
                      try clear c3
                      try clear c4
                      try clear c5
                      try clear p6
                      try clear c9
                      try clear c9b0
                      try clear c10
                      try clear c10b0
                      try clear c14
                      try clear c18
                      try clear c18b0
                      try clear c18b1
                      try clear c20
                      try clear c21
                      try clear c21b0
                      try clear c21b1
                      try clear p23
                      try clear q23
                      try clear hx23
                      try clear p24
                      try clear q24
                      try clear hx24
                      try clear p25
                      try clear q25
                      try clear hx25
                      try clear c28
                      try clear c30
                      try clear c30b0
                      try clear c30b1
                      try clear c35
                      try clear c35b0
                      try clear c35b1
                      try clear c36
                      try clear c37
                      try clear c38
                      try clear c38b0
                      try clear c40
                      try clear c40b0
                      try clear c41
                      try clear c41b0
                      try clear c42
                      try clear c42b0
                      try clear c43
                      try clear c43b0
                      try clear c44
                      try clear c44b0
                      try clear c45
                      try clear c45b0
                      try clear c45b1
                      try clear c46
                      try clear c46b0
                      try clear c46b1
                      try clear c47
                      try clear c47b0
                      try clear c48
                      try clear c49
                      try clear c49b0
                      try clear c50
                      try clear c50b0
                      try clear hx234_0
                      try clear hx246_0
                      try clear hx247_0
                      try clear hx248_0
                      try clear hx249_0
                      try clear hx250_0
                      try clear hx251_0
                      try clear hx252_0
                      try clear p2
                      try clear p23
                      try clear p234
                      try clear p24
                      try clear p246
                      try clear p247
                      try clear p248
                      try clear p249
                      try clear p25
                      try clear p250
                      try clear p251
                      try clear p252
                      try clear p6
                      try clear q2
                      try clear q23
                      try clear q234
                      try clear q24
                      try clear q246
                      try clear q247
                      try clear q248
                      try clear q249
                      try clear q25
                      try clear q250
                      try clear q251
                      try clear q252
                      obtain ⟨x17_6, rfl, HA, HK6, HO_5, HO_11, HB⟩ := hrel
                      cases gk with
                      | zero => exact absurd HA.out (by simp [laws_FnShares.l2])
                      | succ k6 =>
                       have H := HA.out
                       clear HA
                       simp only [laws_FnShares.l2] at H
                       by_cases c51 : x17_6 < (t239.length : Int)
                       ·rw [if_pos c51] at H
                        have c51b0 : decide (x17_6 < (t239.length : Int)) = true := decide_eq_true c51
                        clear c51
                        by_cases c52 : 0 ≤ x16_4
                        ·rw [if_pos c52] at H
                         have c52b0 : decide (0 ≤ x16_4) = true := decide_eq_true c52
                         clear c52
                         by_cases c53 : x16_4 < (t229.length : Int)
                         ·rw [if_pos c53] at H
                          have c53b0 : decide (x16_4 < (t229.length : Int)) = true := decide_eq_true c53
                          clear c53
                          by_cases c54 : 0 ≤ x17_6
                          ·rw [if_pos c54] at H
                           have c54b0 : decide (0 ≤ x17_6) = true := decide_eq_true c54
                           clear c54
                           by_cases c55 : x17_6 < (t229.length : Int)
                           ·rw [if_pos c55] at H
                            have c55b0 : decide (x17_6 < (t229.length : Int)) = true := decide_eq_true c55
                            clear c55
                            by_cases c56 : (rd t229 x16_4) > (rd t229 x17_6)
                            ·rw [if_pos c56] at H
                             have c56b0 : decide ((rd t229 x17_6) < (rd t229 x16_4)) = true := decide_eq_true c56
                             clear c56
                             by_cases c57 : x16_4 < (t239.length : Int)
                             ·rw [if_pos c57] at H
                              have c57b0 : decide (x16_4 < (t239.length : Int)) = true := decide_eq_true c57
                              clear c57
                              by_cases c58 : (rd t239 x16_4) < (rd t239 x17_6)
                              ·rw [if_pos c58] at H
                               have c58b0 : decide ((rd t239 x16_4) < (rd t239 x17_6)) = true := decide_eq_true c58
                               clear c58
                               obtain rfl := Option.some.inj H
                               have p253 : 0 ≤ (x16_4 : Int) := of_decide_eq_true (by first | (with_reducible assumption) | assumption)
                               have q253 : x16_4 < (t229.length : Int) := of_decide_eq_true (by first | (with_reducible assumption) | assumption)
                               obtain ⟨ad253, e253, hx253_0⟩ := Kd.at_int (Kd.R_reads' HO_5.out).2.2 x16_4 p253 q253
                               cases e253
                               replace p253 := eq_true p253
                               replace q253 := eq_true q253
                               have p254 : 0 ≤ (x17_6 : Int) := of_decide_eq_true (by first | (with_reducible assumption) | assumption)
                               have q254 : x17_6 < (t229.length : Int) := of_decide_eq_true (by first | (with_reducible assumption) | assumption)
                               obtain ⟨ad254, e254, hx254_0⟩ := Kd.at_int (Kd.R_reads' HO_5.out).2.2 x17_6 p254 q254
                               obtain rfl : ad253 = ad254 := (by injection e254)
                               replace p254 := eq_true p254
                               replace q254 := eq_true q254
                               have p255 : 0 ≤ (x16_4 : Int) := of_decide_eq_true (by first | (with_reducible assumption) | assumption)
                               have q255 : x16_4 < (t239.length : Int) := of_decide_eq_true (by first | (with_reducible assumption) | assumption)
                               obtain ⟨ad255, e255, hx255_0⟩ := Kd.at_int (Kd.R_reads' HO_11.out).2.2 x16_4 p255 q255
                               obtain rfl : ad252 = ad255 := (by injection e255)
                               replace p255 := eq_true p255
                               replace q255 := eq_true q255
                               have p256 : 0 ≤ (x17_6 : Int) := of_decide_eq_true (by first | (with_reducible assumption) | assumption)
                               have q256 : x17_6 < (t239.length : Int) := of_decide_eq_true (by first | (with_reducible assumption) | assumption)
                               obtain ⟨ad256, e256, hx256_0⟩ := Kd.at_int (Kd.R_reads' HO_11.out).2.2 x17_6 p256 q256
                               obtain rfl : ad252 = ad256 := (by injection e256)
                               replace p256 := eq_true p256
                               replace q256 := eq_true q256
                               go_wp2
                               repeat (go_quiet (fail); try go_wp2)
                               go_ret
                               exact ⟨by first | rfl | (simp [errW_none, errW_some] <;> rfl) | (simp [*, errW_none, errW_some] <;> rfl), by repeat (first | (with_reducible first | exact HB.out | apply below_alloc | apply pw_below_drewN | apply below_drew1) | exact HB.out)⟩
                              ·rw [if_neg c58] at H
                               have c58b0 : decide ((rd t239 x16_4) < (rd t239 x17_6)) = false := decide_eq_false c58
                               clear c58
                               have H' := Aside0.mk H
                               clear H
                               have p253 : 0 ≤ (x16_4 : Int) := of_decide_eq_true (by first | (with_reducible assumption) | assumption)
                               have q253 : x16_4 < (t229.length : Int) := of_decide_eq_true (by first | (with_reducible assumption) | assumption)
                               obtain ⟨ad253, e253, hx253_0⟩ := Kd.at_int (Kd.R_reads' HO_5.out).2.2 x16_4 p253 q253
                               cases e253
                               replace p253 := eq_true p253
                               replace q253 := eq_true q253
                               have p254 : 0 ≤ (x17_6 : Int) := of_decide_eq_true (by first | (with_reducible assumption) | assumption)
                               have q254 : x17_6 < (t229.length : Int) := of_decide_eq_true (by first | (with_reducible assumption) | assumption)
                               obtain ⟨ad254, e254, hx254_0⟩ := Kd.at_int (Kd.R_reads' HO_5.out).2.2 x17_6 p254 q254
                               obtain rfl : ad253 = ad254 := (by injection e254)
                               replace p254 := eq_true p254
                               replace q254 := eq_true q254
                               have p255 : 0 ≤ (x16_4 : Int) := of_decide_eq_true (by first | (with_reducible assumption) | assumption)
                               have q255 : x16_4 < (t239.length : Int) := of_decide_eq_true (by first | (with_reducible assumption) | assumption)
                               obtain ⟨ad255, e255, hx255_0⟩ := Kd.at_int (Kd.R_reads' HO_11.out).2.2 x16_4 p255 q255
                               obtain rfl : ad252 = ad255 := (by injection e255)
                               replace p255 := eq_true p255
                               replace q255 := eq_true q255
                               have p256 : 0 ≤ (x17_6 : Int) := of_decide_eq_true (by first | (with_reducible assumption) | assumption)
                               have q256 : x17_6 < (t239.length : Int) := of_decide_eq_true (by first | (with_reducible assumption) | assumption)
                               obtain ⟨ad256, e256, hx256_0⟩ := Kd.at_int (Kd.R_reads' HO_11.out).2.2 x17_6 p256 q256
                               obtain rfl : ad252 = ad256 := (by injection e256)
                               replace p256 := eq_true p256
                               replace q256 := eq_true q256
                               go_wp2
                               repeat (go_quiet (fail); try go_wp2)
                               go_roundg k6
                               case measure => have := HK1.out; have := HJ13.out; have := HJ31.out; have := HK4.out; have := HJ38.out; have := HK6.out; omega
                               case rel => exact ⟨(wrap64 (x17_6 + 1)), (by first | rfl | (simp; done) | (simp [*]; done)), H', ⟨by have := HK1.out; have := HJ13.out; have := HJ31.out; have := HK4.out; have := HJ38.out; have := HK6.out; omega⟩, ⟨by (with_reducible repeat (first | apply Kd.R_alloc | apply Kd.R_drewN | apply Kd.R_drew)); exact HO_5.out⟩, ⟨by (with_reducible repeat (first | apply Kd.R_alloc | apply Kd.R_drewN | apply Kd.R_drew)); exact HO_11.out⟩, ⟨by repeat (first | (with_reducible first | exact HB.out | apply below_alloc | apply pw_below_drewN | apply below_drew1) | exact HB.out)⟩⟩
                             ·rw [if_neg c57] at H
                              exact absurd H (by simp)
                            ·rw [if_neg c56] at H
                             have c56b0 : decide ((rd t229 x17_6) < (rd t229 x16_4)) = false := decide_eq_false c56
                             clear c56
                             have H' := Aside0.mk H
                             clear H
                             have p253 : 0 ≤ (x16_4 : Int) := of_decide_eq_true (by first | (with_reducible assumption) | assumption)
                             have q253 : x16_4 < (t229.length : Int) := of_decide_eq_true (by first | (with_reducible assumption) | assumption)
                             obtain ⟨ad253, e253, hx253_0⟩ := Kd.at_int (Kd.R_reads' HO_5.out).2.2 x16_4 p253 q253
                             cases e253
                             replace p253 := eq_true p253
                             replace q253 := eq_true q253
                             have p254 : 0 ≤ (x17_6 : Int) := of_decide_eq_true (by first | (with_reducible assumption) | assumption)
                             have q254 : x17_6 < (t229.length : Int) := of_decide_eq_true (by first | (with_reducible assumption) | assumption)
                             obtain ⟨ad254, e254, hx254_0⟩ := Kd.at_int (Kd.R_reads' HO_5.out).2.2 x17_6 p254 q254
                             obtain rfl : ad253 = ad254 := (by injection e254)
                             replace p254 := eq_true p254
                             replace q254 := eq_true q254
                             go_wp2
                             repeat (go_quiet (fail); try go_wp2)
                             go_roundg k6
                             case measure => have := HK1.out; have := HJ13.out; have := HJ31.out; have := HK4.out; have := HJ38.out; have := HK6.out; omega
                             case rel => exact ⟨(wrap64 (x17_6 + 1)), (by first | rfl | (simp; done) | (simp [*]; done)), H', ⟨by have := HK1.out; have := HJ13.out; have := HJ31.out; have := HK4.out; have := HJ38.out; have := HK6.out; omega⟩, ⟨by (with_reducible repeat (first | apply Kd.R_alloc | apply Kd.R_drewN | apply Kd.R_drew)); exact HO_5.out⟩, ⟨by (with_reducible repeat (first | apply Kd.R_alloc | apply Kd.R_drewN | apply Kd.R_drew)); exact HO_11.out⟩, ⟨by repeat (first | (with_reducible first | exact HB.out | apply below_alloc | apply pw_below_drewN | apply below_drew1) | exact HB.out)⟩⟩
                           ·rw [if_neg c55] at H
                            exact absurd H (by simp)
                          ·rw [if_neg c54] at H
                           exact absurd H (by simp)
                         ·rw [if_neg c53] at H
                          exact absurd H (by simp)
                        ·rw [if_neg c52] at H
                         exact absurd H (by simp)
                       ·rw [if_neg c51] at H
                        have c51b0 : decide (x17_6 < (t239.length : Int)) = false := decide_eq_false c51
                        clear c51
                        have H' := Aside0.mk H
                        clear H
                        go_wp2
                        repeat (go_quiet (fail); try go_wp2)
                        go_roundg k6
                        case measure => have := HK1.out; have := HJ13.out; have := HJ31.out; have := HK4.out; have := HJ38.out; have := HK6.out; omega
                        case rel => exact ⟨((wrap64 (x15_4 + (rd t239 x16_4)))), (wrap64 (x16_4 + 1)), (by first | rfl | (simp; done) | (simp [*]; done)), (by first | rfl | (simp; done) | (simp [*]; done)), H', ⟨by have := HK1.out; have := HJ13.out; have := HJ31.out; have := HK4.out; have := HJ38.out; have := HK6.out; omega⟩, ⟨by (with_reducible repeat (first | apply Kd.R_alloc | apply Kd.R_drewN | apply Kd.R_drew)); exact HO_5.out⟩, ⟨by (with_reducible repeat (first | apply Kd.R_alloc | apply Kd.R_drewN | apply Kd.R_drew)); exact HO_11.out⟩, ⟨by repeat (first | (with_reducible first | exact HB.out | apply below_alloc | apply pw_below_drewN | apply below_drew1) | exact HB.out)⟩⟩
                    ·rw [if_neg c50] at H
                     exact absurd H (by simp)
                   ·rw [if_neg c49] at H
                    exact absurd H (by simp)
               ·rw [if_neg c38] at H
                have c38b0 : decide (x16_4 < (t239.length : Int)) = false := decide_eq_false c38
                clear c38
                by_cases c59 : x15_4 = (wrap64 (t232 + (wrap64 (7 * t233))))
                ·rw [if_pos c59] at H
                 have c59b0 : (x15_4 == (wrap64 (t232 + (wrap64 (7 * t233))))) = true := beq_iff_eq.mpr c59
                 have c59b1 : (x15_4 != (wrap64 (t232 + (wrap64 (7 * t233))))) = false := bne_eq_false_iff_eq.mpr c59
                 clear c59
                 by_cases c60 : (t239.length : Int) > 0
                 ·rw [if_pos c60] at H
                  have c60b0 : decide (0 < (t239.length : Int)) = true := decide_eq_true c60
                  have c60b1 : decide (0 < t239.length) = true := decide_eq_true (by omega)
                  clear c60
                  obtain ⟨y257, hy257⟩ : ∃ y_ : List Int, y_ = (([] : List Int)) := ⟨_, rfl⟩
                  replace H : (if y257.length + t239.length < 17592186044416 then ((some (y257 ++ t239 : List Int)).bind fun y260 => ((laws_a2At.f l1 2 (t239.length : Int)).bind fun t263 => (if 0 ≤ t263 then (if t263 < (y260.length : Int) then ((impl_CheckShares.f k4 t229 (wrap64 (t232 + (wrap64 (7 * t233)))) (y260.set (t263 : Int).toNat (wrap64 ((rd y260 t263) + 1)))).bind fun bt266 => (if bt266.2 = 0 then (if bt266.1 = true then (some false) else (laws_FnShares.j6 k4 t229 (wrap64 (t232 + (wrap64 (7 * t233)))) x7_1)) else (some false))) else (none)) else (none)))) else (none)) = some r := by first | (rw [hy257]; with_reducible exact H) | (have H2_ := (Option.bind_some _ _).symm.trans H; rw [hy257]; with_reducible exact H2_) | (have H2_ := (Option.bind_some _ _).symm.trans H; with_reducible exact H2_) | with_reducible exact H | (rw [hy257]; exact H) | exact H
                  have Ny257 := Aside0.mk hy257
                  clear hy257
                  by_cases c61 : y257.length + t239.length < 17592186044416
                  ·rw [if_pos c61] at H
                   have LMc61 := Aside0.mk c61
                   clear c61
                   obtain ⟨y260, hy260⟩ : ∃ y_ : List Int, y_ = (y257 ++ t239) := ⟨_, rfl⟩
                   replace H : ((laws_a2At.f l1 2 (t239.length : Int)).bind fun t263 => (if 0 ≤ t263 then (if t263 < (y260.length : Int) then ((impl_CheckShares.f k4 t229 (wrap64 (t232 + (wrap64 (7 * t233)))) (y260.set (t263 : Int).toNat (wrap64 ((rd y260 t263) + 1)))).bind fun bt266 => (if bt266.2 = 0 then (if bt266.1 = true then (some false) else (laws_FnShares.j6 k4 t229 (wrap64 (t232 + (wrap64 (7 * t233)))) x7_1)) else (some false))) else (none)) else (none))) = some r := by first | (rw [hy260]; with_reducible exact H) | (have H2_ := (Option.bind_some _ _).symm.trans H; rw [hy260]; with_reducible exact H2_) | (have H2_ := (Option.bind_some _ _).symm.trans H; with_reducible exact H2_) | with_reducible exact H | (rw [hy260]; exact H) | exact H
                   have Ny260 := Aside0.mk hy260
                   clear hy260
                   replace H := Option.bind_eq_some_iff.mp H
                   obtain ⟨t263, A620, H⟩ := H
                   replace H : (if 0 ≤ t263 then (if t263 < (y260.length : Int) then ((impl_CheckShares.f k4 t229 (wrap64 (t232 + (wrap64 (7 * t233)))) (y260.set (t263 : Int).toNat (wrap64 ((rd y260 t263) + 1)))).bind fun bt266 => (if bt266.2 = 0 then (if bt266.1 = true then (some false) else (laws_FnShares.j6 k4 t229 (wrap64 (t232 + (wrap64 (7 * t233)))) x7_1)) else (some false))) else (none)) else (none)) = some r := H
                   have A62 := Aside0.mk A620
                   clear A620
                   by_cases c63 : 0 ≤ t263
                   ·rw [if_pos c63] at H
                    have c63b0 : decide (0 ≤ t263) = true := decide_eq_true c63
                    clear c63
                    by_cases c64 : t263 < (y260.length : Int)
                    ·rw [if_pos c64] at H
                     have c64b0 : decide (t263 < (y260.length : Int)) = true := decide_eq_true c64
                     clear c64
                     obtain ⟨y265, hy265⟩ : ∃ y_ : List Int, y_ = (y260.set (t263 : Int).toNat (wrap64 ((rd y260 t263) + 1))) := ⟨_, rfl⟩
                     replace H : ((impl_CheckShares.f k4 t229 (wrap64 (t232 + (wrap64 (7 * t233)))) y265).bind fun bt266 => (if bt266.2 = 0 then (if bt266.1 = true then (some false) else (laws_FnShares.j6 k4 t229 (wrap64 (t232 + (wrap64 (7 * t233)))) x7_1)) else (some false))) = some r := by first | (rw [hy265]; with_reducible exact H) | (have H2_ := (Option.bind_some _ _).symm.trans H; rw [hy265]; with_reducible exact H2_) | (have H2_ := (Option.bind_some _ _).symm.trans H; with_reducible exact H2_) | with_reducible exact H | (rw [hy265]; exact H) | exact H
                     have Ny265 := Aside0.mk hy265
                     clear hy265
                     replace H := Option.bind_eq_some_iff.mp H
                     obtain ⟨⟨t266, t267⟩, A660, H⟩ := H
                     replace H : (if t267 = 0 then (if t266 = true then (some false) else (laws_FnShares.j6 k4 t229 (wrap64 (t232 + (wrap64 (7 * t233)))) x7_1)) else (some false)) = some r := H
                     have A66 := Aside0.mk A660
                     clear A660
                     by_cases c67 : t267 = 0
                     ·rw [if_pos c67] at H
                      have c67b0 : (t267 == 0) = true := beq_iff_eq.mpr c67
                      have c67b1 : (t267 != 0) = false := bne_eq_false_iff_eq.mpr c67
                      clear c67
                      by_cases c68 : t266 = true
                      ·as_aux_lemma =>
                       subst c68
                       have H1 : (some false) = some r := by rw [if_pos rfl] at H; exact H
                       clear H
                       have H := H1
                       clear H1
                       obtain rfl := Option.some.inj H
                       go_wp2_with (first | ((with_reducible refine gate_dst (N := 201) rfl ?_); (try (refine gate_guard (by rfl) ?_; dsimp only)); refine Kd.R_lit (Kd.int .i64) _ 2 ?hg (N := 201) ?hd (xs := ([] : List Int)) (inner := []) (ok := fun _ => True) (okp := fun _ => True) ?hr ?hp (fun _ hk => hk) trivial (Below.refl _ _) (Nat.le_refl _) (by simp) ?_; (case hd => rfl); (case hg => rfl); (case hr => first | (go_simp; done) | (go_simp; rfl)); (case hp => exact (Reps.none _ _)); intro v258 w69 ho70 hb hg_ hnew_; clear hg_ hnew_; (first | rw [← Ny257.out] at ho70 | (simp only [Int.reduceToNat] at ho70; rw [← Ny257.out] at ho70)); have n0_ := Aside0.mk (Kd.R_elder' (by (with_reducible repeat (first | apply Kd.R_alloc | apply Kd.R_drewN | apply Kd.R_drew)); exact HO_5.out) (Kd.R_base ho70) hb); have n1_ := Aside0.mk (Kd.R_elder' (by (with_reducible repeat (first | apply Kd.R_alloc | apply Kd.R_drewN | apply Kd.R_drew)); exact HO_11.out) (Kd.R_base ho70) hb); have n2_ := Aside0.mk (Kd.R_lower (Kd.R_new' (Kd.R_new' ho70 (Kd.R_lt (by (with_reducible repeat (first | apply Kd.R_alloc | apply Kd.R_drewN | apply Kd.R_drew)); exact HO_5.out))) (Kd.R_lt (by (with_reducible repeat (first | apply Kd.R_alloc | apply Kd.R_drewN | apply Kd.R_drew)); exact HO_11.out))) (below_size (by repeat (first | (with_reducible first | exact HB.out | apply below_alloc | apply pw_below_drewN | apply below_drew1) | exact HB.out)))); have n3_ := Aside0.mk (below_step (by repeat (first | (with_reducible first | exact HB.out | apply below_alloc | apply pw_below_drewN | apply below_drew1) | exact HB.out)) hb); clear HO_5; clear HO_11; clear HB; have HO_5 := n0_; have HO_11 := n1_; have HO259 := n2_; have HB := n3_; clear n0_ n1_ n2_ n3_; clear hb ho70) | ((with_reducible refine gate_builtin (b := .append) (xs := #[.tmp 201, .tmp 202]) rfl ?_); (try (refine gate_guard (by rfl) ?_; dsimp only)); at_builtin; refine Kd.R_append_rows (Kd.int .i64) (w0 := w) w.heap.size rfl (.tmp 201) (.tmp 202) 38 2 (.int .i64 0) 8 rfl Try.underlying38 info2 rfl (by decide) (by omega) v258 y257 t239 _ _ _ (fun k_ => some k_ ≠ (.slice Ao15 t229.length co15 : Value).ownBlock ∧ some k_ ≠ (.slice Ao33 t239.length co33 : Value).ownBlock) (fun _ => False) rfl rfl ?aO ?aR (fun _ _ h => h) (fun _ h => h.elim) ?aF ?aB ?aS ?aL ?_; (case aR => repeat (first | exact (Kd.R_reads' HO_11.out).2.2 | (with_reducible refine Kd.C_alloc ?_ _) | (with_reducible refine Kd.C_drewN ?_ _) | (with_reducible refine Kd.C_drew ?_))); (case aB => exact (by repeat (first | (with_reducible first | exact HB.out | apply below_alloc | apply pw_below_drewN | apply below_drew1) | exact HB.out))); (case aF => exact (fun k_ hk => ⟨Kd.fresh' (Kd.R_lt (by (with_reducible repeat (first | apply Kd.R_alloc | apply Kd.R_drewN | apply Kd.R_drew)); exact HO_5.out)) k_ hk, Kd.fresh' (Kd.R_lt (by (with_reducible repeat (first | apply Kd.R_alloc | apply Kd.R_drewN | apply Kd.R_drew)); exact HO_11.out)) k_ hk⟩)); (case aO => exact (by (with_reducible repeat (first | apply Kd.R_alloc | apply Kd.R_drewN | apply Kd.R_drew)); exact Kd.R_mono HO259.out (fun _ hk => ⟨hk.1.2, hk.2⟩))); (case aS => exact (below_size (by repeat (first | (with_reducible first | exact HB.out | apply below_alloc | apply pw_below_drewN | apply below_drew1) | exact HB.out)))); (case aL => have := LMc61.out; omega); intro v261 w71 ho hb hg hat; rw [← Ny260.out] at ho; have n0_ := Aside0.mk (Kd.R_after (ok := (fun k_ => some k_ ≠ (.slice Ao33 t239.length co33 : Value).ownBlock)) (by (with_reducible repeat (first | apply Kd.R_alloc | apply Kd.R_drewN | apply Kd.R_drew)); exact HO_5.out) hg hat); have n1_ := Aside0.mk (Kd.R_after (ok := (fun k_ => some k_ ≠ (.slice Ao15 t229.length co15 : Value).ownBlock)) (by (with_reducible repeat (first | apply Kd.R_alloc | apply Kd.R_drewN | apply Kd.R_drew)); exact HO_11.out) hg hat); have n2_ := Aside0.mk (hb); have n3_ := Aside0.mk (ho); clear HO_5; clear HO_11; clear HB; clear HO259; have HO_5 := n0_; have HO_11 := n1_; have HB := n2_; have HO262 := n3_; clear n0_ n1_ n2_ n3_; clear ho hb hg hat) | (go_at_call 46; (with_reducible refine (laws_a2At.calls _ _ l1 2 (t239.length : Int) t263 _ ?side1 ?side2 A62.out).mono ?_); (case side1 => repeat (first | exact (Kd.C_below HR1.out HB.out) | (with_reducible refine Kd.C_alloc ?_ _) | (with_reducible refine Kd.C_drewN ?_ _) | (with_reducible refine Kd.C_drew ?_))); (case side2 => exact HC1.out); rintro e w' ⟨rfl, ⟨nd, rfl⟩⟩; (try first | exact ⟨rfl, _, World.drewN_drewN _ _ _⟩ | exact ⟨rfl, _, Eq.trans (World.drewN_drewN _ _ _) (congrArg (World.drewN _) (Nat.add_assoc _ _ _))⟩); obtain ⟨Ao72, co72, eo72⟩ := Kd.R_slice HO262.out; subst eo72; have p264 : 0 ≤ (t263 : Int) := of_decide_eq_true (by first | (with_reducible assumption) | assumption); have q264 : t263 < (y260.length : Int) := of_decide_eq_true (by first | (with_reducible assumption) | assumption); obtain ⟨ad264, e264, hx264_0⟩ := Kd.at_int (Kd.R_reads' HO262.out).2.2 t263 p264 q264; cases e264; replace p264 := eq_true p264; replace q264 := eq_true q264; have p65 : 0 ≤ (t263 : Int) := of_decide_eq_true (by first | (with_reducible assumption) | assumption); have q65 : (t263 : Int) < ((y260.length : Int) : Int) := of_decide_eq_true (by first | (with_reducible assumption) | assumption); obtain ⟨go65, co65, eo65, gb65, gl65, cl65, HG65⟩ := Kd.R_form HO262.out (by omega); (first | cases eo65 | (injection eo65 with ea_ en_ ec_; (first | subst ea_ | (injection ea_ with ea_; subst ea_)); subst ec_; clear en_)); have GB65 := Aside0.mk gb65; have GG65 := Aside0.mk HG65; clear gb65 gl65 HG65; (first | simp only [add_plain] at hx264_0 | skip); obtain ⟨hx65_0, hf65_0⟩ := Kd.R_celln 0 HO262.out (t263 : Int) p65 q65; replace p65 := eq_true p65; replace q65 := eq_true q65; obtain ⟨hy73_, hz73_⟩ := Kd.R_celln 0 HO262.out (t263 : Int) (of_decide_eq_true (by first | (with_reducible assumption) | assumption)) (of_decide_eq_true (by first | (with_reducible assumption) | assumption)); have HP73 := Kd.R_putg HO262.out (t263 : Int) (wrap64 ((rd y260 t263) + 1))) | ((with_reducible refine gate_store (t := 2) (p := 212) rfl ?_); (try (rw [drewN_self w71]; generalize hq_ : World.drewN w71 _ = w71; have n0_ := Aside0.mk (Kd.R_at hq_ HO_5.out); have n1_ := Aside0.mk (Kd.R_at hq_ HO_11.out); have n2_ := Aside0.mk (Kd.R_at hq_ HO262.out); have n3_ := Aside0.mk (below_at hq_ HB.out); clear hq_ HO_5 HO_11 HO262 HB; have HO_5 := n0_; have HO_11 := n1_; have HO262 := n2_; have HB := n3_; clear n0_ n1_ n2_ n3_; (try (obtain ⟨hy73_, hz73_⟩ := Kd.R_celln 0 HO262.out (t263 : Int) (of_decide_eq_true (by first | (with_reducible assumption) | assumption)) (of_decide_eq_true (by first | (with_reducible assumption) | assumption)))); (try (have HP73 := Kd.R_putg HO262.out (t263 : Int) (wrap64 ((rd y260 t263) + 1)))))); refine store_event (t := 2) (p := 212) (v := ?vo_w74) (w1 := (w71.setCell ⟨go65, (t263 : Int).toNat, none⟩ (.int .i64 (wrap64 ((rd y260 t263) + 1))))) ?hg ?ho ?hn ?hr ?_; (case ho => rfl); (case hg => rfl); (case hn => rfl); (case hr => first | (go_simp; done) | (go_simp; rfl)); intro w74 hw; have hg : w71.grownBy w74 (some go65) := (by rw [hw]; exact HP73.2); have hp_ : Kd.R (Kd.int .i64) 2 w74 w.heap.size (fun k_ => some k_ ≠ (.slice Ao15 t229.length co15 : Value).ownBlock ∧ some k_ ≠ (.slice Ao33 t239.length co33 : Value).ownBlock) (.slice (some ⟨go65, 0, none⟩) y260.length co72) y265 := (by rw [hw, Ny265.out]; exact HP73.1); clear HP73; have n0_ := Aside0.mk (Kd.R_after (v := (.slice (some ⟨go65, 0, none⟩) y260.length co72)) (v1 := (.slice (some ⟨go65, 0, none⟩) y260.length co72)) (ok := (fun k_ => some k_ ≠ (.slice Ao33 t239.length co33 : Value).ownBlock)) (by (with_reducible repeat (first | apply Kd.R_alloc | apply Kd.R_drewN | apply Kd.R_drew)); exact HO_5.out) hg (.inl rfl)); have n1_ := Aside0.mk (Kd.R_after (v := (.slice (some ⟨go65, 0, none⟩) y260.length co72)) (v1 := (.slice (some ⟨go65, 0, none⟩) y260.length co72)) (ok := (fun k_ => some k_ ≠ (.slice Ao15 t229.length co15 : Value).ownBlock)) (by (with_reducible repeat (first | apply Kd.R_alloc | apply Kd.R_drewN | apply Kd.R_drew)); exact HO_11.out) hg (.inl rfl)); have n2_ := Aside0.mk (hp_); have n3_ := Aside0.mk ((by rw [hw]; exact below_set (HB.out) GB65.out : Below w.heap.size w w74)); clear HO_5; clear HO_11; clear HO262; clear HB; have HO_5 := n0_; have HO_11 := n1_; have HO262 := n2_; have HB := n3_; clear n0_ n1_ n2_ n3_; clear hg hw hp_) | (go_at_call 31; refine calls_of_args (args' := #[.slice Ao15 t229.length co15, .int .i64 (wrap64 (t232 + (wrap64 (7 * t233)))), .slice (some ⟨go65, 0, none⟩) y265.length co72]) (by first | (rw [show y265.length = y260.length from (Kd.R_reads' HO262.out).1.symm] <;> rfl) | rfl) ?_; (with_reducible refine (impl_CheckShares.calls k4 _ _ t229 (wrap64 (t232 + (wrap64 (7 * t233)))) _ _ y265 true t267 _ ?side1 ?side2 ?side3 ?side4 A66.out).mono ?_); (case side1 => repeat (first | exact (Kd.R_reads' HO_5.out).2.2 | (with_reducible refine Kd.C_alloc ?_ _) | (with_reducible refine Kd.C_drewN ?_ _) | (with_reducible refine Kd.C_drew ?_))); (case side2 => exact (Kd.R_reads' HO_5.out).2.1); (case side3 => repeat (first | exact (Kd.R_reads' HO262.out).2.2 | (with_reducible refine Kd.C_alloc ?_ _) | (with_reducible refine Kd.C_drewN ?_ _) | (with_reducible refine Kd.C_drew ?_))); (case side4 => rw [show y265.length = y260.length from (Kd.R_reads' HO262.out).1.symm]; exact (Kd.R_reads' HO262.out).2.1); rintro e w75 ⟨rfl, hb⟩; have n0_ := Aside0.mk (Kd.R_below (by (with_reducible repeat (first | apply Kd.R_alloc | apply Kd.R_drewN | apply Kd.R_drew)); exact HO_5.out) hb); have n1_ := Aside0.mk (Kd.R_below (by (with_reducible repeat (first | apply Kd.R_alloc | apply Kd.R_drewN | apply Kd.R_drew)); exact HO_11.out) hb); have n2_ := Aside0.mk (Kd.R_below (by (with_reducible repeat (first | apply Kd.R_alloc | apply Kd.R_drewN | apply Kd.R_drew)); exact HO262.out) hb); have n3_ := Aside0.mk (below_step (by repeat (first | (with_reducible first | exact HB.out | apply below_alloc | apply pw_below_drewN | apply below_drew1) | exact HB.out)) hb); clear HO_5; clear HO_11; clear HO262; clear HB; have HO_5 := n0_; have HO_11 := n1_; have HO262 := n2_; have HB := n3_; clear n0_ n1_ n2_ n3_; (try clear hb); (try clear hb2); (try clear hk); (try clear hi)))
                       repeat (go_quiet (fail); try go_wp2_with (first | ((with_reducible refine gate_dst (N := 201) rfl ?_); (try (refine gate_guard (by rfl) ?_; dsimp only)); refine Kd.R_lit (Kd.int .i64) _ 2 ?hg (N := 201) ?hd (xs := ([] : List Int)) (inner := []) (ok := fun _ => True) (okp := fun _ => True) ?hr ?hp (fun _ hk => hk) trivial (Below.refl _ _) (Nat.le_refl _) (by simp) ?_; (case hd => rfl); (case hg => rfl); (case hr => first | (go_simp; done) | (go_simp; rfl)); (case hp => exact (Reps.none _ _)); intro v258 w69 ho70 hb hg_ hnew_; clear hg_ hnew_; (first | rw [← Ny257.out] at ho70 | (simp only [Int.reduceToNat] at ho70; rw [← Ny257.out] at ho70)); have n0_ := Aside0.mk (Kd.R_elder' (by (with_reducible repeat (first | apply Kd.R_alloc | apply Kd.R_drewN | apply Kd.R_drew)); exact HO_5.out) (Kd.R_base ho70) hb); have n1_ := Aside0.mk (Kd.R_elder' (by (with_reducible repeat (first | apply Kd.R_alloc | apply Kd.R_drewN | apply Kd.R_drew)); exact HO_11.out) (Kd.R_base ho70) hb); have n2_ := Aside0.mk (Kd.R_lower (Kd.R_new' (Kd.R_new' ho70 (Kd.R_lt (by (with_reducible repeat (first | apply Kd.R_alloc | apply Kd.R_drewN | apply Kd.R_drew)); exact HO_5.out))) (Kd.R_lt (by (with_reducible repeat (first | apply Kd.R_alloc | apply Kd.R_drewN | apply Kd.R_drew)); exact HO_11.out))) (below_size (by repeat (first | (with_reducible first | exact HB.out | apply below_alloc | apply pw_below_drewN | apply below_drew1) | exact HB.out)))); have n3_ := Aside0.mk (below_step (by repeat (first | (with_reducible first | exact HB.out | apply below_alloc | apply pw_below_drewN | apply below_drew1) | exact HB.out)) hb); clear HO_5; clear HO_11; clear HB; have HO_5 := n0_; have HO_11 := n1_; have HO259 := n2_; have HB := n3_; clear n0_ n1_ n2_ n3_; clear hb ho70) | ((with_reducible refine gate_builtin (b := .append) (xs := #[.tmp 201, .tmp 202]) rfl ?_); (try (refine gate_guard (by rfl) ?_; dsimp only)); at_builtin; refine Kd.R_append_rows (Kd.int .i64) (w0 := w) w.heap.size rfl (.tmp 201) (.tmp 202) 38 2 (.int .i64 0) 8 rfl Try.underlying38 info2 rfl (by decide) (by omega) v258 y257 t239 _ _ _ (fun k_ => some k_ ≠ (.slice Ao15 t229.length co15 : Value).ownBlock ∧ some k_ ≠ (.slice Ao33 t239.length co33 : Value).ownBlock) (fun _ => False) rfl rfl ?aO ?aR (fun _ _ h => h) (fun _ h => h.elim) ?aF ?aB ?aS ?aL ?_; (case aR => repeat (first | exact (Kd.R_reads' HO_11.out).2.2 | (with_reducible refine Kd.C_alloc ?_ _) | (with_reducible refine Kd.C_drewN ?_ _) | (with_reducible refine Kd.C_drew ?_))); (case aB => exact (by repeat (first | (with_reducible first | exact HB.out | apply below_alloc | apply pw_below_drewN | apply below_drew1) | exact HB.out))); (case aF => exact (fun k_ hk => ⟨Kd.fresh' (Kd.R_lt (by (with_reducible repeat (first | apply Kd.R_alloc | apply Kd.R_drewN | apply Kd.R_drew)); exact HO_5.out)) k_ hk, Kd.fresh' (Kd.R_lt (by (with_reducible repeat (first | apply Kd.R_alloc | apply Kd.R_drewN | apply Kd.R_drew)); exact HO_11.out)) k_ hk⟩)); (case aO => exact (by (with_reducible repeat (first | apply Kd.R_alloc | apply Kd.R_drewN | apply Kd.R_drew)); exact Kd.R_mono HO259.out (fun _ hk => ⟨hk.1.2, hk.2⟩))); (case aS => exact (below_size (by repeat (first | (with_reducible first | exact HB.out | apply below_alloc | apply pw_below_drewN | apply below_drew1) | exact HB.out)))); (case aL => have := LMc61.out; omega); intro v261 w71 ho hb hg hat; rw [← Ny260.out] at ho; have n0_ := Aside0.mk (Kd.R_after (ok := (fun k_ => some k_ ≠ (.slice Ao33 t239.length co33 : Value).ownBlock)) (by (with_reducible repeat (first | apply Kd.R_alloc | apply Kd.R_drewN | apply Kd.R_drew)); exact HO_5.out) hg hat); have n1_ := Aside0.mk (Kd.R_after (ok := (fun k_ => some k_ ≠ (.slice Ao15 t229.length co15 : Value).ownBlock)) (by (with_reducible repeat (first | apply Kd.R_alloc | apply Kd.R_drewN | apply Kd.R_drew)); exact HO_11.out) hg hat); have n2_ := Aside0.mk (hb); have n3_ := Aside0.mk (ho); clear HO_5; clear HO_11; clear HB; clear HO259; have HO_5 := n0_; have HO_11 := n1_; have HB := n2_; have HO262 := n3_; clear n0_ n1_ n2_ n3_; clear ho hb hg hat) | (go_at_call 46; (with_reducible refine (laws_a2At.calls _ _ l1 2 (t239.length : Int) t263 _ ?side1 ?side2 A62.out).mono ?_); (case side1 => repeat (first | exact (Kd.C_below HR1.out HB.out) | (with_reducible refine Kd.C_alloc ?_ _) | (with_reducible refine Kd.C_drewN ?_ _) | (with_reducible refine Kd.C_drew ?_))); (case side2 => exact HC1.out); rintro e w' ⟨rfl, ⟨nd, rfl⟩⟩; (try first | exact ⟨rfl, _, World.drewN_drewN _ _ _⟩ | exact ⟨rfl, _, Eq.trans (World.drewN_drewN _ _ _) (congrArg (World.drewN _) (Nat.add_assoc _ _ _))⟩); obtain ⟨Ao72, co72, eo72⟩ := Kd.R_slice HO262.out; subst eo72; have p264 : 0 ≤ (t263 : Int) := of_decide_eq_true (by first | (with_reducible assumption) | assumption); have q264 : t263 < (y260.length : Int) := of_decide_eq_true (by first | (with_reducible assumption) | assumption); obtain ⟨ad264, e264, hx264_0⟩ := Kd.at_int (Kd.R_reads' HO262.out).2.2 t263 p264 q264; cases e264; replace p264 := eq_true p264; replace q264 := eq_true q264; have p65 : 0 ≤ (t263 : Int) := of_decide_eq_true (by first | (with_reducible assumption) | assumption); have q65 : (t263 : Int) < ((y260.length : Int) : Int) := of_decide_eq_true (by first | (with_reducible assumption) | assumption); obtain ⟨go65, co65, eo65, gb65, gl65, cl65, HG65⟩ := Kd.R_form HO262.out (by omega); (first | cases eo65 | (injection eo65 with ea_ en_ ec_; (first | subst ea_ | (injection ea_ with ea_; subst ea_)); subst ec_; clear en_)); have GB65 := Aside0.mk gb65; have GG65 := Aside0.mk HG65; clear gb65 gl65 HG65; (first | simp only [add_plain] at hx264_0 | skip); obtain ⟨hx65_0, hf65_0⟩ := Kd.R_celln 0 HO262.out (t263 : Int) p65 q65; replace p65 := eq_true p65; replace q65 := eq_true q65; obtain ⟨hy73_, hz73_⟩ := Kd.R_celln 0 HO262.out (t263 : Int) (of_decide_eq_true (by first | (with_reducible assumption) | assumption)) (of_decide_eq_true (by first | (with_reducible assumption) | assumption)); have HP73 := Kd.R_putg HO262.out (t263 : Int) (wrap64 ((rd y260 t263) + 1))) | ((with_reducible refine gate_store (t := 2) (p := 212) rfl ?_); (try (rw [drewN_self w71]; generalize hq_ : World.drewN w71 _ = w71; have n0_ := Aside0.mk (Kd.R_at hq_ HO_5.out); have n1_ := Aside0.mk (Kd.R_at hq_ HO_11.out); have n2_ := Aside0.mk (Kd.R_at hq_ HO262.out); have n3_ := Aside0.mk (below_at hq_ HB.out); clear hq_ HO_5 HO_11 HO262 HB; have HO_5 := n0_; have HO_11 := n1_; have HO262 := n2_; have HB := n3_; clear n0_ n1_ n2_ n3_; (try (obtain ⟨hy73_, hz73_⟩ := Kd.R_celln 0 HO262.out (t263 : Int) (of_decide_eq_true (by first | (with_reducible assumption) | assumption)) (of_decide_eq_true (by first | (with_reducible assumption) | assumption)))); (try (have HP73 := Kd.R_putg HO262.out (t263 : Int) (wrap64 ((rd y260 t263) + 1)))))); refine store_event (t := 2) (p := 212) (v := ?vo_w74) (w1 := (w71.setCell ⟨go65, (t263 : Int).toNat, none⟩ (.int .i64 (wrap64 ((rd y260 t263) + 1))))) ?hg ?ho ?hn ?hr ?_; (case ho => rfl); (case hg => rfl); (case hn => rfl); (case hr => first | (go_simp; done) | (go_simp; rfl)); intro w74 hw; have hg : w71.grownBy w74 (some go65) := (by rw [hw]; exact HP73.2); have hp_ : Kd.R (Kd.int .i64) 2 w74 w.heap.size (fun k_ => some k_ ≠ (.slice Ao15 t229.length co15 : Value).ownBlock ∧ some k_ ≠ (.slice Ao33 t239.length co33 : Value).ownBlock) (.slice (some ⟨go65, 0, none⟩) y260.length co72) y265 := (by rw [hw, Ny265.out]; exact HP73.1); clear HP73; have n0_ := Aside0.mk (Kd.R_after (v := (.slice (some ⟨go65, 0, none⟩) y260.length co72)) (v1 := (.slice (some ⟨go65, 0, none⟩) y260.length co72)) (ok := (fun k_ => some k_ ≠ (.slice Ao33 t239.length co33 : Value).ownBlock)) (by (with_reducible repeat (first | apply Kd.R_alloc | apply Kd.R_drewN | apply Kd.R_drew)); exact HO_5.out) hg (.inl rfl)); have n1_ := Aside0.mk (Kd.R_after (v := (.slice (some ⟨go65, 0, none⟩) y260.length co72)) (v1 := (.slice (some ⟨go65, 0, none⟩) y260.length co72)) (ok := (fun k_ => some k_ ≠ (.slice Ao15 t229.length co15 : Value).ownBlock)) (by (with_reducible repeat (first | apply Kd.R_alloc | apply Kd.R_drewN | apply Kd.R_drew)); exact HO_11.out) hg (.inl rfl)); have n2_ := Aside0.mk (hp_); have n3_ := Aside0.mk ((by rw [hw]; exact below_set (HB.out) GB65.out : Below w.heap.size w w74)); clear HO_5; clear HO_11; clear HO262; clear HB; have HO_5 := n0_; have HO_11 := n1_; have HO262 := n2_; have HB := n3_; clear n0_ n1_ n2_ n3_; clear hg hw hp_) | (go_at_call 31; refine calls_of_args (args' := #[.slice Ao15 t229.length co15, .int .i64 (wrap64 (t232 + (wrap64 (7 * t233)))), .slice (some ⟨go65, 0, none⟩) y265.length co72]) (by first | (rw [show y265.length = y260.length from (Kd.R_reads' HO262.out).1.symm] <;> rfl) | rfl) ?_; (with_reducible refine (impl_CheckShares.calls k4 _ _ t229 (wrap64 (t232 + (wrap64 (7 * t233)))) _ _ y265 true t267 _ ?side1 ?side2 ?side3 ?side4 A66.out).mono ?_); (case side1 => repeat (first | exact (Kd.R_reads' HO_5.out).2.2 | (with_reducible refine Kd.C_alloc ?_ _) | (with_reducible refine Kd.C_drewN ?_ _) | (with_reducible refine Kd.C_drew ?_))); (case side2 => exact (Kd.R_reads' HO_5.out).2.1); (case side3 => repeat (first | exact (Kd.R_reads' HO262.out).2.2 | (with_reducible refine Kd.C_alloc ?_ _) | (with_reducible refine Kd.C_drewN ?_ _) | (with_reducible refine Kd.C_drew ?_))); (case side4 => rw [show y265.length = y260.length from (Kd.R_reads' HO262.out).1.symm]; exact (Kd.R_reads' HO262.out).2.1); rintro e w75 ⟨rfl, hb⟩; have n0_ := Aside0.mk (Kd.R_below (by (with_reducible repeat (first | apply Kd.R_alloc | apply Kd.R_drewN | apply Kd.R_drew)); exact HO_5.out) hb); have n1_ := Aside0.mk (Kd.R_below (by (with_reducible repeat (first | apply Kd.R_alloc | apply Kd.R_drewN | apply Kd.R_drew)); exact HO_11.out) hb); have n2_ := Aside0.mk (Kd.R_below (by (with_reducible repeat (first | apply Kd.R_alloc | apply Kd.R_drewN | apply Kd.R_drew)); exact HO262.out) hb); have n3_ := Aside0.mk (below_step (by repeat (first | (with_reducible first | exact HB.out | apply below_alloc | apply pw_below_drewN | apply below_drew1) | exact HB.out)) hb); clear HO_5; clear HO_11; clear HO262; clear HB; have HO_5 := n0_; have HO_11 := n1_; have HO262 := n2_; have HB := n3_; clear n0_ n1_ n2_ n3_; (try clear hb); (try clear hb2); (try clear hk); (try clear hi))))
                       go_ret
                       exact ⟨by first | rfl | (simp [errW_none, errW_some] <;> rfl) | (simp [*, errW_none, errW_some] <;> rfl), by repeat (first | (with_reducible first | exact HB.out | apply below_alloc | apply pw_below_drewN | apply below_drew1) | exact HB.out)⟩
                      ·as_aux_lemma =>
                       replace c68 := Bool.eq_false_iff.mpr c68
                       subst c68
                       have H1 : (laws_FnShares.j6 k4 t229 (wrap64 (t232 + (wrap64 (7 * t233)))) x7_1) = some r := by rw [if_neg (show ¬ (false = true) by decide)] at H; exact H
                       clear H
                       have H := H1
                       clear H1
                       have H' := Aside0.mk H
                       clear H
                       go_wp2_with (first | ((with_reducible refine gate_dst (N := 201) rfl ?_); (try (refine gate_guard (by rfl) ?_; dsimp only)); refine Kd.R_lit (Kd.int .i64) _ 2 ?hg (N := 201) ?hd (xs := ([] : List Int)) (inner := []) (ok := fun _ => True) (okp := fun _ => True) ?hr ?hp (fun _ hk => hk) trivial (Below.refl _ _) (Nat.le_refl _) (by simp) ?_; (case hd => rfl); (case hg => rfl); (case hr => first | (go_simp; done) | (go_simp; rfl)); (case hp => exact (Reps.none _ _)); intro v258 w76 ho77 hb hg_ hnew_; clear hg_ hnew_; (first | rw [← Ny257.out] at ho77 | (simp only [Int.reduceToNat] at ho77; rw [← Ny257.out] at ho77)); have n0_ := Aside0.mk (Kd.R_elder' (by (with_reducible repeat (first | apply Kd.R_alloc | apply Kd.R_drewN | apply Kd.R_drew)); exact HO_5.out) (Kd.R_base ho77) hb); have n1_ := Aside0.mk (Kd.R_elder' (by (with_reducible repeat (first | apply Kd.R_alloc | apply Kd.R_drewN | apply Kd.R_drew)); exact HO_11.out) (Kd.R_base ho77) hb); have n2_ := Aside0.mk (Kd.R_lower (Kd.R_new' (Kd.R_new' ho77 (Kd.R_lt (by (with_reducible repeat (first | apply Kd.R_alloc | apply Kd.R_drewN | apply Kd.R_drew)); exact HO_5.out))) (Kd.R_lt (by (with_reducible repeat (first | apply Kd.R_alloc | apply Kd.R_drewN | apply Kd.R_drew)); exact HO_11.out))) (below_size (by repeat (first | (with_reducible first | exact HB.out | apply below_alloc | apply pw_below_drewN | apply below_drew1) | exact HB.out)))); have n3_ := Aside0.mk (below_step (by repeat (first | (with_reducible first | exact HB.out | apply below_alloc | apply pw_below_drewN | apply below_drew1) | exact HB.out)) hb); clear HO_5; clear HO_11; clear HB; have HO_5 := n0_; have HO_11 := n1_; have HO259 := n2_; have HB := n3_; clear n0_ n1_ n2_ n3_; clear hb ho77) | ((with_reducible refine gate_builtin (b := .append) (xs := #[.tmp 201, .tmp 202]) rfl ?_); (try (refine gate_guard (by rfl) ?_; dsimp only)); at_builtin; refine Kd.R_append_rows (Kd.int .i64) (w0 := w) w.heap.size rfl (.tmp 201) (.tmp 202) 38 2 (.int .i64 0) 8 rfl Try.underlying38 info2 rfl (by decide) (by omega) v258 y257 t239 _ _ _ (fun k_ => some k_ ≠ (.slice Ao15 t229.length co15 : Value).ownBlock ∧ some k_ ≠ (.slice Ao33 t239.length co33 : Value).ownBlock) (fun _ => False) rfl rfl ?aO ?aR (fun _ _ h => h) (fun _ h => h.elim) ?aF ?aB ?aS ?aL ?_; (case aR => repeat (first | exact (Kd.R_reads' HO_11.out).2.2 | (with_reducible refine Kd.C_alloc ?_ _) | (with_reducible refine Kd.C_drewN ?_ _) | (with_reducible refine Kd.C_drew ?_))); (case aB => exact (by repeat (first | (with_reducible first | exact HB.out | apply below_alloc | apply pw_below_drewN | apply below_drew1) | exact HB.out))); (case aF => exact (fun k_ hk => ⟨Kd.fresh' (Kd.R_lt (by (with_reducible repeat (first | apply Kd.R_alloc | apply Kd.R_drewN | apply Kd.R_drew)); exact HO_5.out)) k_ hk, Kd.fresh' (Kd.R_lt (by (with_reducible repeat (first | apply Kd.R_alloc | apply Kd.R_drewN | apply Kd.R_drew)); exact HO_11.out)) k_ hk⟩)); (case aO => exact (by (with_reducible repeat (first | apply Kd.R_alloc | apply Kd.R_drewN | apply Kd.R_drew)); exact Kd.R_mono HO259.out (fun _ hk => ⟨hk.1.2, hk.2⟩))); (case aS => exact (below_size (by repeat (first | (with_reducible first | exact HB.out | apply below_alloc | apply pw_below_drewN | apply below_drew1) | exact HB.out)))); (case aL => have := LMc61.out; omega); intro v261 w78 ho hb hg hat; rw [← Ny260.out] at ho; have n0_ := Aside0.mk (Kd.R_after (ok := (fun k_ => some k_ ≠ (.slice Ao33 t239.length co33 : Value).ownBlock)) (by (with_reducible repeat (first | apply Kd.R_alloc | apply Kd.R_drewN | apply Kd.R_drew)); exact HO_5.out) hg hat); have n1_ := Aside0.mk (Kd.R_after (ok := (fun k_ => some k_ ≠ (.slice Ao15 t229.length co15 : Value).ownBlock)) (by (with_reducible repeat (first | apply Kd.R_alloc | apply Kd.R_drewN | apply Kd.R_drew)); exact HO_11.out) hg hat); have n2_ := Aside0.mk (hb); have n3_ := Aside0.mk (ho); clear HO_5; clear HO_11; clear HB; clear HO259; have HO_5 := n0_; have HO_11 := n1_; have HB := n2_; have HO262 := n3_; clear n0_ n1_ n2_ n3_; clear ho hb hg hat) | (go_at_call 46; (with_reducible refine (laws_a2At.calls _ _ l1 2 (t239.length : Int) t263 _ ?side1 ?side2 A62.out).mono ?_); (case side1 => repeat (first | exact (Kd.C_below HR1.out HB.out) | (with_reducible refine Kd.C_alloc ?_ _) | (with_reducible refine Kd.C_drewN ?_ _) | (with_reducible refine Kd.C_drew ?_))); (case side2 => exact HC1.out); rintro e w' ⟨rfl, ⟨nd, rfl⟩⟩; (try first | exact ⟨rfl, _, World.drewN_drewN _ _ _⟩ | exact ⟨rfl, _, Eq.trans (World.drewN_drewN _ _ _) (congrArg (World.drewN _) (Nat.add_assoc _ _ _))⟩); obtain ⟨Ao79, co79, eo79⟩ := Kd.R_slice HO262.out; subst eo79; have p264 : 0 ≤ (t263 : Int) := of_decide_eq_true (by first | (with_reducible assumption) | assumption); have q264 : t263 < (y260.length : Int) := of_decide_eq_true (by first | (with_reducible assumption) | assumption); obtain ⟨ad264, e264, hx264_0⟩ := Kd.at_int (Kd.R_reads' HO262.out).2.2 t263 p264 q264; cases e264; replace p264 := eq_true p264; replace q264 := eq_true q264; have p65 : 0 ≤ (t263 : Int) := of_decide_eq_true (by first | (with_reducible assumption) | assumption); have q65 : (t263 : Int) < ((y260.length : Int) : Int) := of_decide_eq_true (by first | (with_reducible assumption) | assumption); obtain ⟨go65, co65, eo65, gb65, gl65, cl65, HG65⟩ := Kd.R_form HO262.out (by omega); (first | cases eo65 | (injection eo65 with ea_ en_ ec_; (first | subst ea_ | (injection ea_ with ea_; subst ea_)); subst ec_; clear en_)); have GB65 := Aside0.mk gb65; have GG65 := Aside0.mk HG65; clear gb65 gl65 HG65; (first | simp only [add_plain] at hx264_0 | skip); obtain ⟨hx65_0, hf65_0⟩ := Kd.R_celln 0 HO262.out (t263 : Int) p65 q65; replace p65 := eq_true p65; replace q65 := eq_true q65; obtain ⟨hy80_, hz80_⟩ := Kd.R_celln 0 HO262.out (t263 : Int) (of_decide_eq_true (by first | (with_reducible assumption) | assumption)) (of_decide_eq_true (by first | (with_reducible assumption) | assumption)); have HP80 := Kd.R_putg HO262.out (t263 : Int) (wrap64 ((rd y260 t263) + 1))) | ((with_reducible refine gate_store (t := 2) (p := 212) rfl ?_); (try (rw [drewN_self w78]; generalize hq_ : World.drewN w78 _ = w78; have n0_ := Aside0.mk (Kd.R_at hq_ HO_5.out); have n1_ := Aside0.mk (Kd.R_at hq_ HO_11.out); have n2_ := Aside0.mk (Kd.R_at hq_ HO262.out); have n3_ := Aside0.mk (below_at hq_ HB.out); clear hq_ HO_5 HO_11 HO262 HB; have HO_5 := n0_; have HO_11 := n1_; have HO262 := n2_; have HB := n3_; clear n0_ n1_ n2_ n3_; (try (obtain ⟨hy80_, hz80_⟩ := Kd.R_celln 0 HO262.out (t263 : Int) (of_decide_eq_true (by first | (with_reducible assumption) | assumption)) (of_decide_eq_true (by first | (with_reducible assumption) | assumption)))); (try (have HP80 := Kd.R_putg HO262.out (t263 : Int) (wrap64 ((rd y260 t263) + 1)))))); refine store_event (t := 2) (p := 212) (v := ?vo_w81) (w1 := (w78.setCell ⟨go65, (t263 : Int).toNat, none⟩ (.int .i64 (wrap64 ((rd y260 t263) + 1))))) ?hg ?ho ?hn ?hr ?_; (case ho => rfl); (case hg => rfl); (case hn => rfl); (case hr => first | (go_simp; done) | (go_simp; rfl)); intro w81 hw; have hg : w78.grownBy w81 (some go65) := (by rw [hw]; exact HP80.2); have hp_ : Kd.R (Kd.int .i64) 2 w81 w.heap.size (fun k_ => some k_ ≠ (.slice Ao15 t229.length co15 : Value).ownBlock ∧ some k_ ≠ (.slice Ao33 t239.length co33 : Value).ownBlock) (.slice (some ⟨go65, 0, none⟩) y260.length co79) y265 := (by rw [hw, Ny265.out]; exact HP80.1); clear HP80; have n0_ := Aside0.mk (Kd.R_after (v := (.slice (some ⟨go65, 0, none⟩) y260.length co79)) (v1 := (.slice (some ⟨go65, 0, none⟩) y260.length co79)) (ok := (fun k_ => some k_ ≠ (.slice Ao33 t239.length co33 : Value).ownBlock)) (by (with_reducible repeat (first | apply Kd.R_alloc | apply Kd.R_drewN | apply Kd.R_drew)); exact HO_5.out) hg (.inl rfl)); have n1_ := Aside0.mk (Kd.R_after (v := (.slice (some ⟨go65, 0, none⟩) y260.length co79)) (v1 := (.slice (some ⟨go65, 0, none⟩) y260.length co79)) (ok := (fun k_ => some k_ ≠ (.slice Ao15 t229.length co15 : Value).ownBlock)) (by (with_reducible repeat (first | apply Kd.R_alloc | apply Kd.R_drewN | apply Kd.R_drew)); exact HO_11.out) hg (.inl rfl)); have n2_ := Aside0.mk (hp_); have n3_ := Aside0.mk ((by rw [hw]; exact below_set (HB.out) GB65.out : Below w.heap.size w w81)); clear HO_5; clear HO_11; clear HO262; clear HB; have HO_5 := n0_; have HO_11 := n1_; have HO262 := n2_; have HB := n3_; clear n0_ n1_ n2_ n3_; clear hg hw hp_) | (go_at_call 31; refine calls_of_args (args' := #[.slice Ao15 t229.length co15, .int .i64 (wrap64 (t232 + (wrap64 (7 * t233)))), .slice (some ⟨go65, 0, none⟩) y265.length co79]) (by first | (rw [show y265.length = y260.length from (Kd.R_reads' HO262.out).1.symm] <;> rfl) | rfl) ?_; (with_reducible refine (impl_CheckShares.calls k4 _ _ t229 (wrap64 (t232 + (wrap64 (7 * t233)))) _ _ y265 false t267 _ ?side1 ?side2 ?side3 ?side4 A66.out).mono ?_); (case side1 => repeat (first | exact (Kd.R_reads' HO_5.out).2.2 | (with_reducible refine Kd.C_alloc ?_ _) | (with_reducible refine Kd.C_drewN ?_ _) | (with_reducible refine Kd.C_drew ?_))); (case side2 => exact (Kd.R_reads' HO_5.out).2.1); (case side3 => repeat (first | exact (Kd.R_reads' HO262.out).2.2 | (with_reducible refine Kd.C_alloc ?_ _) | (with_reducible refine Kd.C_drewN ?_ _) | (with_reducible refine Kd.C_drew ?_))); (case side4 => rw [show y265.length = y260.length from (Kd.R_reads' HO262.out).1.symm]; exact (Kd.R_reads' HO262.out).2.1); rintro e w82 ⟨rfl, hb⟩; have n0_ := Aside0.mk (Kd.R_below (by (with_reducible repeat (first | apply Kd.R_alloc | apply Kd.R_drewN | apply Kd.R_drew)); exact HO_5.out) hb); have n1_ := Aside0.mk (Kd.R_below (by (with_reducible repeat (first | apply Kd.R_alloc | apply Kd.R_drewN | apply Kd.R_drew)); exact HO_11.out) hb); have n2_ := Aside0.mk (Kd.R_below (by (with_reducible repeat (first | apply Kd.R_alloc | apply Kd.R_drewN | apply Kd.R_drew)); exact HO262.out) hb); have n3_ := Aside0.mk (below_step (by repeat (first | (with_reducible first | exact HB.out | apply below_alloc | apply pw_below_drewN | apply below_drew1) | exact HB.out)) hb); clear HO_5; clear HO_11; clear HO262; clear HB; have HO_5 := n0_; have HO_11 := n1_; have HO262 := n2_; have HB := n3_; clear n0_ n1_ n2_ n3_; (try clear hb); (try clear hb2); (try clear hk); (try clear hi)))
                       repeat (go_quiet (fail); try go_wp2_with (first | ((with_reducible refine gate_dst (N := 201) rfl ?_); (try (refine gate_guard (by rfl) ?_; dsimp only)); refine Kd.R_lit (Kd.int .i64) _ 2 ?hg (N := 201) ?hd (xs := ([] : List Int)) (inner := []) (ok := fun _ => True) (okp := fun _ => True) ?hr ?hp (fun _ hk => hk) trivial (Below.refl _ _) (Nat.le_refl _) (by simp) ?_; (case hd => rfl); (case hg => rfl); (case hr => first | (go_simp; done) | (go_simp; rfl)); (case hp => exact (Reps.none _ _)); intro v258 w76 ho77 hb hg_ hnew_; clear hg_ hnew_; (first | rw [← Ny257.out] at ho77 | (simp only [Int.reduceToNat] at ho77; rw [← Ny257.out] at ho77)); have n0_ := Aside0.mk (Kd.R_elder' (by (with_reducible repeat (first | apply Kd.R_alloc | apply Kd.R_drewN | apply Kd.R_drew)); exact HO_5.out) (Kd.R_base ho77) hb); have n1_ := Aside0.mk (Kd.R_elder' (by (with_reducible repeat (first | apply Kd.R_alloc | apply Kd.R_drewN | apply Kd.R_drew)); exact HO_11.out) (Kd.R_base ho77) hb); have n2_ := Aside0.mk (Kd.R_lower (Kd.R_new' (Kd.R_new' ho77 (Kd.R_lt (by (with_reducible repeat (first | apply Kd.R_alloc | apply Kd.R_drewN | apply Kd.R_drew)); exact HO_5.out))) (Kd.R_lt (by (with_reducible repeat (first | apply Kd.R_alloc | apply Kd.R_drewN | apply Kd.R_drew)); exact HO_11.out))) (below_size (by repeat (first | (with_reducible first | exact HB.out | apply below_alloc | apply pw_below_drewN | apply below_drew1) | exact HB.out)))); have n3_ := Aside0.mk (below_step (by repeat (first | (with_reducible first | exact HB.out | apply below_alloc | apply pw_below_drewN | apply below_drew1) | exact HB.out)) hb); clear HO_5; clear HO_11; clear HB; have HO_5 := n0_; have HO_11 := n1_; have HO259 := n2_; have HB := n3_; clear n0_ n1_ n2_ n3_; clear hb ho77) | ((with_reducible refine gate_builtin (b := .append) (xs := #[.tmp 201, .tmp 202]) rfl ?_); (try (refine gate_guard (by rfl) ?_; dsimp only)); at_builtin; refine Kd.R_append_rows (Kd.int .i64) (w0 := w) w.heap.size rfl (.tmp 201) (.tmp 202) 38 2 (.int .i64 0) 8 rfl Try.underlying38 info2 rfl (by decide) (by omega) v258 y257 t239 _ _ _ (fun k_ => some k_ ≠ (.slice Ao15 t229.length co15 : Value).ownBlock ∧ some k_ ≠ (.slice Ao33 t239.length co33 : Value).ownBlock) (fun _ => False) rfl rfl ?aO ?aR (fun _ _ h => h) (fun _ h => h.elim) ?aF ?aB ?aS ?aL ?_; (case aR => repeat (first | exact (Kd.R_reads' HO_11.out).2.2 | (with_reducible refine Kd.C_alloc ?_ _) | (with_reducible refine Kd.C_drewN ?_ _) | (with_reducible refine Kd.C_drew ?_))); (case aB => exact (by repeat (first | (with_reducible first | exact HB.out | apply below_alloc | apply pw_below_drewN | apply below_drew1) | exact HB.out))); (case aF => exact (fun k_ hk => ⟨Kd.fresh' (Kd.R_lt (by (with_reducible repeat (first | apply Kd.R_alloc | apply Kd.R_drewN | apply Kd.R_drew)); exact HO_5.out)) k_ hk, Kd.fresh' (Kd.R_lt (by (with_reducible repeat (first | apply Kd.R_alloc | apply Kd.R_drewN | apply Kd.R_drew)); exact HO_11.out)) k_ hk⟩)); (case aO => exact (by (with_reducible repeat (first | apply Kd.R_alloc | apply Kd.R_drewN | apply Kd.R_drew)); exact Kd.R_mono HO259.out (fun _ hk => ⟨hk.1.2, hk.2⟩))); (case aS => exact (below_size (by repeat (first | (with_reducible first | exact HB.out | apply below_alloc | apply pw_below_drewN | apply below_drew1) | exact HB.out)))); (case aL => have := LMc61.out; omega); intro v261 w78 ho hb hg hat; rw [← Ny260.out] at ho; have n0_ := Aside0.mk (Kd.R_after (ok := (fun k_ => some k_ ≠ (.slice Ao33 t239.length co33 : Value).ownBlock)) (by (with_reducible repeat (first | apply Kd.R_alloc | apply Kd.R_drewN | apply Kd.R_drew)); exact HO_5.out) hg hat); have n1_ := Aside0.mk (Kd.R_after (ok := (fun k_ => some k_ ≠ (.slice Ao15 t229.length co15 : Value).ownBlock)) (by (with_reducible repeat (first | apply Kd.R_alloc | apply Kd.R_drewN | apply Kd.R_drew)); exact HO_11.out) hg hat); have n2_ := Aside0.mk (hb); have n3_ := Aside0.mk (ho); clear HO_5; clear HO_11; clear HB; clear HO259; have HO_5 := n0_; have HO_11 := n1_; have HB := n2_; have HO262 := n3_; clear n0_ n1_ n2_ n3_; clear ho hb hg hat) | (go_at_call 46; (with_reducible refine (laws_a2At.calls _ _ l1 2 (t239.length : Int) t263 _ ?side1 ?side2 A62.out).mono ?_); (case side1 => repeat (first | exact (Kd.C_below HR1.out HB.out) | (with_reducible refine Kd.C_alloc ?_ _) | (with_reducible refine Kd.C_drewN ?_ _) | (with_reducible refine Kd.C_drew ?_))); (case side2 => exact HC1.out); rintro e w' ⟨rfl, ⟨nd, rfl⟩⟩; (try first | exact ⟨rfl, _, World.drewN_drewN _ _ _⟩ | exact ⟨rfl, _, Eq.trans (World.drewN_drewN _ _ _) (congrArg (World.drewN _) (Nat.add_assoc _ _ _))⟩); obtain ⟨Ao79, co79, eo79⟩ := Kd.R_slice HO262.out; subst eo79; have p264 : 0 ≤ (t263 : Int) := of_decide_eq_true (by first | (with_reducible assumption) | assumption); have q264 : t263 < (y260.length : Int) := of_decide_eq_true (by first | (with_reducible assumption) | assumption); obtain ⟨ad264, e264, hx264_0⟩ := Kd.at_int (Kd.R_reads' HO262.out).2.2 t263 p264 q264; cases e264; replace p264 := eq_true p264; replace q264 := eq_true q264; have p65 : 0 ≤ (t263 : Int) := of_decide_eq_true (by first | (with_reducible assumption) | assumption); have q65 : (t263 : Int) < ((y260.length : Int) : Int) := of_decide_eq_true (by first | (with_reducible assumption) | assumption); obtain ⟨go65, co65, eo65, gb65, gl65, cl65, HG65⟩ := Kd.R_form HO262.out (by omega); (first | cases eo65 | (injection eo65 with ea_ en_ ec_; (first | subst ea_ | (injection ea_ with ea_; subst ea_)); subst ec_; clear en_)); have GB65 := Aside0.mk gb65; have GG65 := Aside0.mk HG65; clear gb65 gl65 HG65; (first | simp only [add_plain] at hx264_0 | skip); obtain ⟨hx65_0, hf65_0⟩ := Kd.R_celln 0 HO262.out (t263 : Int) p65 q65; replace p65 := eq_true p65; replace q65 := eq_true q65; obtain ⟨hy80_, hz80_⟩ := Kd.R_celln 0 HO262.out (t263 : Int) (of_decide_eq_true (by first | (with_reducible assumption) | assumption)) (of_decide_eq_true (by first | (with_reducible assumption) | assumption)); have HP80 := Kd.R_putg HO262.out (t263 : Int) (wrap64 ((rd y260 t263) + 1))) | ((with_reducible refine gate_store (t := 2) (p := 212) rfl ?_); (try (rw [drewN_self w78]; generalize hq_ : World.drewN w78 _ = w78; have n0_ := Aside0.mk (Kd.R_at hq_ HO_5.out); have n1_ := Aside0.mk (Kd.R_at hq_ HO_11.out); have n2_ := Aside0.mk (Kd.R_at hq_ HO262.out); have n3_ := Aside0.mk (below_at hq_ HB.out); clear hq_ HO_5 HO_11 HO262 HB; have HO_5 := n0_; have HO_11 := n1_; have HO262 := n2_; have HB := n3_; clear n0_ n1_ n2_ n3_; (try (obtain ⟨hy80_, hz80_⟩ := Kd.R_celln 0 HO262.out (t263 : Int) (of_decide_eq_true (by first | (with_reducible assumption) | assumption)) (of_decide_eq_true (by first | (with_reducible assumption) | assumption)))); (try (have HP80 := Kd.R_putg HO262.out (t263 : Int) (wrap64 ((rd y260 t263) + 1)))))); refine store_event (t := 2) (p := 212) (v := ?vo_w81) (w1 := (w78.setCell ⟨go65, (t263 : Int).toNat, none⟩ (.int .i64 (wrap64 ((rd y260 t263) + 1))))) ?hg ?ho ?hn ?hr ?_; (case ho => rfl); (case hg => rfl); (case hn => rfl); (case hr => first | (go_simp; done) | (go_simp; rfl)); intro w81 hw; have hg : w78.grownBy w81 (some go65) := (by rw [hw]; exact HP80.2); have hp_ : Kd.R (Kd.int .i64) 2 w81 w.heap.size (fun k_ => some k_ ≠ (.slice Ao15 t229.length co15 : Value).ownBlock ∧ some k_ ≠ (.slice Ao33 t239.length co33 : Value).ownBlock) (.slice (some ⟨go65, 0, none⟩) y260.length co79) y265 := (by rw [hw, Ny265.out]; exact HP80.1); clear HP80; have n0_ := Aside0.mk (Kd.R_after (v := (.slice (some ⟨go65, 0, none⟩) y260.length co79)) (v1 := (.slice (some ⟨go65, 0, none⟩) y260.length co79)) (ok := (fun k_ => some k_ ≠ (.slice Ao33 t239.length co33 : Value).ownBlock)) (by (with_reducible repeat (first | apply Kd.R_alloc | apply Kd.R_drewN | apply Kd.R_drew)); exact HO_5.out) hg (.inl rfl)); have n1_ := Aside0.mk (Kd.R_after (v := (.slice (some ⟨go65, 0, none⟩) y260.length co79)) (v1 := (.slice (some ⟨go65, 0, none⟩) y260.length co79)) (ok := (fun k_ => some k_ ≠ (.slice Ao15 t229.length co15 : Value).ownBlock)) (by (with_reducible repeat (first | apply Kd.R_alloc | apply Kd.R_drewN | apply Kd.R_drew)); exact HO_11.out) hg (.inl rfl)); have n2_ := Aside0.mk (hp_); have n3_ := Aside0.mk ((by rw [hw]; exact below_set (HB.out) GB65.out : Below w.heap.size w w81)); clear HO_5; clear HO_11; clear HO262; clear HB; have HO_5 := n0_; have HO_11 := n1_; have HO262 := n2_; have HB := n3_; clear n0_ n1_ n2_ n3_; clear hg hw hp_) | (go_at_call 31; refine calls_of_args (args' := #[.slice Ao15 t229.length co15, .int .i64 (wrap64 (t232 + (wrap64 (7 * t233)))), .slice (some ⟨go65, 0, none⟩) y265.length co79]) (by first | (rw [show y265.length = y260.length from (Kd.R_reads' HO262.out).1.symm] <;> rfl) | rfl) ?_; (with_reducible refine (impl_CheckShares.calls k4 _ _ t229 (wrap64 (t232 + (wrap64 (7 * t233)))) _ _ y265 false t267 _ ?side1 ?side2 ?side3 ?side4 A66.out).mono ?_); (case side1 => repeat (first | exact (Kd.R_reads' HO_5.out).2.2 | (with_reducible refine Kd.C_alloc ?_ _) | (with_reducible refine Kd.C_drewN ?_ _) | (with_reducible refine Kd.C_drew ?_))); (case side2 => exact (Kd.R_reads' HO_5.out).2.1); (case side3 => repeat (first | exact (Kd.R_reads' HO262.out).2.2 | (with_reducible refine Kd.C_alloc ?_ _) | (with_reducible refine Kd.C_drewN ?_ _) | (with_reducible refine Kd.C_drew ?_))); (case side4 => rw [show y265.length = y260.length from (Kd.R_reads' HO262.out).1.symm]; exact (Kd.R_reads' HO262.out).2.1); rintro e w82 ⟨rfl, hb⟩; have n0_ := Aside0.mk (Kd.R_below (by (with_reducible repeat (first | apply Kd.R_alloc | apply Kd.R_drewN | apply Kd.R_drew)); exact HO_5.out) hb); have n1_ := Aside0.mk (Kd.R_below (by (with_reducible repeat (first | apply Kd.R_alloc | apply Kd.R_drewN | apply Kd.R_drew)); exact HO_11.out) hb); have n2_ := Aside0.mk (Kd.R_below (by (with_reducible repeat (first | apply Kd.R_alloc | apply Kd.R_drewN | apply Kd.R_drew)); exact HO262.out) hb); have n3_ := Aside0.mk (below_step (by repeat (first | (with_reducible first | exact HB.out | apply below_alloc | apply pw_below_drewN | apply below_drew1) | exact HB.out)) hb); clear HO_5; clear HO_11; clear HO262; clear HB; have HO_5 := n0_; have HO_11 := n1_; have HO262 := n2_; have HB := n3_; clear n0_ n1_ n2_ n3_; (try clear hb); (try clear hb2); (try clear hk); (try clear hi))))
                       go_meet
                       case rel => exact ⟨_, (t229), H', ⟨by have := HK1.out; have := HJ13.out; have := HJ31.out; have := HK4.out; first | omega | exact Nat.le_refl _⟩, ⟨by (with_reducible repeat (first | apply Kd.R_alloc | apply Kd.R_drewN | apply Kd.R_drew)); exact Kd.R_mono HO_5.out (fun _ hk => trivial)⟩, ⟨by repeat (first | (with_reducible first | exact HB.out | apply below_alloc | apply pw_below_drewN | apply below_drew1) | exact HB.out)⟩⟩
                     ·rw [if_neg c67] at H
                      have c67b0 : (t267 == 0) = false := beq_eq_false_iff_ne.mpr c67
                      have c67b1 : (t267 != 0) = true := bne_iff_ne.mpr c67
                      obtain rfl := Option.some.inj H
                      go_wp2_with (first | ((with_reducible refine gate_dst (N := 201) rfl ?_); (try (refine gate_guard (by rfl) ?_; dsimp only)); refine Kd.R_lit (Kd.int .i64) _ 2 ?hg (N := 201) ?hd (xs := ([] : List Int)) (inner := []) (ok := fun _ => True) (okp := fun _ => True) ?hr ?hp (fun _ hk => hk) trivial (Below.refl _ _) (Nat.le_refl _) (by simp) ?_; (case hd => rfl); (case hg => rfl); (case hr => first | (go_simp; done) | (go_simp; rfl)); (case hp => exact (Reps.none _ _)); intro v258 w83 ho84 hb hg_ hnew_; clear hg_ hnew_; (first | rw [← Ny257.out] at ho84 | (simp only [Int.reduceToNat] at ho84; rw [← Ny257.out] at ho84)); have n0_ := Aside0.mk (Kd.R_elder' (by (with_reducible repeat (first | apply Kd.R_alloc | apply Kd.R_drewN | apply Kd.R_drew)); exact HO_5.out) (Kd.R_base ho84) hb); have n1_ := Aside0.mk (Kd.R_elder' (by (with_reducible repeat (first | apply Kd.R_alloc | apply Kd.R_drewN | apply Kd.R_drew)); exact HO_11.out) (Kd.R_base ho84) hb); have n2_ := Aside0.mk (Kd.R_lower (Kd.R_new' (Kd.R_new' ho84 (Kd.R_lt (by (with_reducible repeat (first | apply Kd.R_alloc | apply Kd.R_drewN | apply Kd.R_drew)); exact HO_5.out))) (Kd.R_lt (by (with_reducible repeat (first | apply Kd.R_alloc | apply Kd.R_drewN | apply Kd.R_drew)); exact HO_11.out))) (below_size (by repeat (first | (with_reducible first | exact HB.out | apply below_alloc | apply pw_below_drewN | apply below_drew1) | exact HB.out)))); have n3_ := Aside0.mk (below_step (by repeat (first | (with_reducible first | exact HB.out | apply below_alloc | apply pw_below_drewN | apply below_drew1) | exact HB.out)) hb); clear HO_5; clear HO_11; clear HB; have HO_5 := n0_; have HO_11 := n1_; have HO259 := n2_; have HB := n3_; clear n0_ n1_ n2_ n3_; clear hb ho84) | ((with_reducible refine gate_builtin (b := .append) (xs := #[.tmp 201, .tmp 202]) rfl ?_); (try (refine gate_guard (by rfl) ?_; dsimp only)); at_builtin; refine Kd.R_append_rows (Kd.int .i64) (w0 := w) w.heap.size rfl (.tmp 201) (.tmp 202) 38 2 (.int .i64 0) 8 rfl Try.underlying38 info2 rfl (by decide) (by omega) v258 y257 t239 _ _ _ (fun k_ => some k_ ≠ (.slice Ao15 t229.length co15 : Value).ownBlock ∧ some k_ ≠ (.slice Ao33 t239.length co33 : Value).ownBlock) (fun _ => False) rfl rfl ?aO ?aR (fun _ _ h => h) (fun _ h => h.elim) ?aF ?aB ?aS ?aL ?_; (case aR => repeat (first | exact (Kd.R_reads' HO_11.out).2.2 | (with_reducible refine Kd.C_alloc ?_ _) | (with_reducible refine Kd.C_drewN ?_ _) | (with_reducible refine Kd.C_drew ?_))); (case aB => exact (by repeat (first | (with_reducible first | exact HB.out | apply below_alloc | apply pw_below_drewN | apply below_drew1) | exact HB.out))); (case aF => exact (fun k_ hk => ⟨Kd.fresh' (Kd.R_lt (by (with_reducible repeat (first | apply Kd.R_alloc | apply Kd.R_drewN | apply Kd.R_drew)); exact HO_5.out)) k_ hk, Kd.fresh' (Kd.R_lt (by (with_reducible repeat (first | apply Kd.R_alloc | apply Kd.R_drewN | apply Kd.R_drew)); exact HO_11.out)) k_ hk⟩)); (case aO => exact (by (with_reducible repeat (first | apply Kd.R_alloc | apply Kd.R_drewN | apply Kd.R_drew)); exact Kd.R_mono HO259.out (fun _ hk => ⟨hk.1.2, hk.2⟩))); (case aS => exact (below_size (by repeat (first | (with_reducible first | exact HB.out | apply below_alloc | apply pw_below_drewN | apply below_drew1) | exact HB.out)))); (case aL => have := LMc61.out; omega); intro v261 w85 ho hb hg hat; rw [← Ny260.out] at ho; have n0_ := Aside0.mk (Kd.R_after (ok := (fun k_ => some k_ ≠ (.slice Ao33 t239.length co33 : Value).ownBlock)) (by (with_reducible repeat (first | apply Kd.R_alloc | apply Kd.R_drewN | apply Kd.R_drew)); exact HO_5.out) hg hat); have n1_ := Aside0.mk (Kd.R_after (ok := (fun k_ => some k_ ≠ (.slice Ao15 t229.length co15 : Value).ownBlock)) (by (with_reducible repeat (first | apply Kd.R_alloc | apply Kd.R_drewN | apply Kd.R_drew)); exact HO_11.out) hg hat); have n2_ := Aside0.mk (hb); have n3_ := Aside0.mk (ho); clear HO_5; clear HO_11; clear HB; clear HO259; have HO_5 := n0_; have HO_11 := n1_; have HB := n2_; have HO262 := n3_; clear n0_ n1_ n2_ n3_; clear ho hb hg hat) | (go_at_call 46; (with_reducible refine (laws_a2At.calls _ _ l1 2 (t239.length : Int) t263 _ ?side1 ?side2 A62.out).mono ?_); (case side1 => repeat (first | exact (Kd.C_below HR1.out HB.out) | (with_reducible refine Kd.C_alloc ?_ _) | (with_reducible refine Kd.C_drewN ?_ _) | (with_reducible refine Kd.C_drew ?_))); (case side2 => exact HC1.out); rintro e w' ⟨rfl, ⟨nd, rfl⟩⟩; (try first | exact ⟨rfl, _, World.drewN_drewN _ _ _⟩ | exact ⟨rfl, _, Eq.trans (World.drewN_drewN _ _ _) (congrArg (World.drewN _) (Nat.add_assoc _ _ _))⟩); obtain ⟨Ao86, co86, eo86⟩ := Kd.R_slice HO262.out; subst eo86; have p264 : 0 ≤ (t263 : Int) := of_decide_eq_true (by first | (with_reducible assumption) | assumption); have q264 : t263 < (y260.length : Int) := of_decide_eq_true (by first | (with_reducible assumption) | assumption); obtain ⟨ad264, e264, hx264_0⟩ := Kd.at_int (Kd.R_reads' HO262.out).2.2 t263 p264 q264; cases e264; replace p264 := eq_true p264; replace q264 := eq_true q264; have p65 : 0 ≤ (t263 : Int) := of_decide_eq_true (by first | (with_reducible assumption) | assumption); have q65 : (t263 : Int) < ((y260.length : Int) : Int) := of_decide_eq_true (by first | (with_reducible assumption) | assumption); obtain ⟨go65, co65, eo65, gb65, gl65, cl65, HG65⟩ := Kd.R_form HO262.out (by omega); (first | cases eo65 | (injection eo65 with ea_ en_ ec_; (first | subst ea_ | (injection ea_ with ea_; subst ea_)); subst ec_; clear en_)); have GB65 := Aside0.mk gb65; have GG65 := Aside0.mk HG65; clear gb65 gl65 HG65; (first | simp only [add_plain] at hx264_0 | skip); obtain ⟨hx65_0, hf65_0⟩ := Kd.R_celln 0 HO262.out (t263 : Int) p65 q65; replace p65 := eq_true p65; replace q65 := eq_true q65; obtain ⟨hy87_, hz87_⟩ := Kd.R_celln 0 HO262.out (t263 : Int) (of_decide_eq_true (by first | (with_reducible assumption) | assumption)) (of_decide_eq_true (by first | (with_reducible assumption) | assumption)); have HP87 := Kd.R_putg HO262.out (t263 : Int) (wrap64 ((rd y260 t263) + 1))) | ((with_reducible refine gate_store (t := 2) (p := 212) rfl ?_); (try (rw [drewN_self w85]; generalize hq_ : World.drewN w85 _ = w85; have n0_ := Aside0.mk (Kd.R_at hq_ HO_5.out); have n1_ := Aside0.mk (Kd.R_at hq_ HO_11.out); have n2_ := Aside0.mk (Kd.R_at hq_ HO262.out); have n3_ := Aside0.mk (below_at hq_ HB.out); clear hq_ HO_5 HO_11 HO262 HB; have HO_5 := n0_; have HO_11 := n1_; have HO262 := n2_; have HB := n3_; clear n0_ n1_ n2_ n3_; (try (obtain ⟨hy87_, hz87_⟩ := Kd.R_celln 0 HO262.out (t263 : Int) (of_decide_eq_true (by first | (with_reducible assumption) | assumption)) (of_decide_eq_true (by first | (with_reducible assumption) | assumption)))); (try (have HP87 := Kd.R_putg HO262.out (t263 : Int) (wrap64 ((rd y260 t263) + 1)))))); refine store_event (t := 2) (p := 212) (v := ?vo_w88) (w1 := (w85.setCell ⟨go65, (t263 : Int).toNat, none⟩ (.int .i64 (wrap64 ((rd y260 t263) + 1))))) ?hg ?ho ?hn ?hr ?_; (case ho => rfl); (case hg => rfl); (case hn => rfl); (case hr => first | (go_simp; done) | (go_simp; rfl)); intro w88 hw; have hg : w85.grownBy w88 (some go65) := (by rw [hw]; exact HP87.2); have hp_ : Kd.R (Kd.int .i64) 2 w88 w.heap.size (fun k_ => some k_ ≠ (.slice Ao15 t229.length co15 : Value).ownBlock ∧ some k_ ≠ (.slice Ao33 t239.length co33 : Value).ownBlock) (.slice (some ⟨go65, 0, none⟩) y260.length co86) y265 := (by rw [hw, Ny265.out]; exact HP87.1); clear HP87; have n0_ := Aside0.mk (Kd.R_after (v := (.slice (some ⟨go65, 0, none⟩) y260.length co86)) (v1 := (.slice (some ⟨go65, 0, none⟩) y260.length co86)) (ok := (fun k_ => some k_ ≠ (.slice Ao33 t239.length co33 : Value).ownBlock)) (by (with_reducible repeat (first | apply Kd.R_alloc | apply Kd.R_drewN | apply Kd.R_drew)); exact HO_5.out) hg (.inl rfl)); have n1_ := Aside0.mk (Kd.R_after (v := (.slice (some ⟨go65, 0, none⟩) y260.length co86)) (v1 := (.slice (some ⟨go65, 0, none⟩) y260.length co86)) (ok := (fun k_ => some k_ ≠ (.slice Ao15 t229.length co15 : Value).ownBlock)) (by (with_reducible repeat (first | apply Kd.R_alloc | apply Kd.R_drewN | apply Kd.R_drew)); exact HO_11.out) hg (.inl rfl)); have n2_ := Aside0.mk (hp_); have n3_ := Aside0.mk ((by rw [hw]; exact below_set (HB.out) GB65.out : Below w.heap.size w w88)); clear HO_5; clear HO_11; clear HO262; clear HB; have HO_5 := n0_; have HO_11 := n1_; have HO262 := n2_; have HB := n3_; clear n0_ n1_ n2_ n3_; clear hg hw hp_) | (go_at_call 31; refine calls_of_args (args' := #[.slice Ao15 t229.length co15, .int .i64 (wrap64 (t232 + (wrap64 (7 * t233)))), .slice (some ⟨go65, 0, none⟩) y265.length co86]) (by first | (rw [show y265.length = y260.length from (Kd.R_reads' HO262.out).1.symm] <;> rfl) | rfl) ?_; (with_reducible refine (impl_CheckShares.calls k4 _ _ t229 (wrap64 (t232 + (wrap64 (7 * t233)))) _ _ y265 t266 t267 _ ?side1 ?side2 ?side3 ?side4 A66.out).mono ?_); (case side1 => repeat (first | exact (Kd.R_reads' HO_5.out).2.2 | (with_reducible refine Kd.C_alloc ?_ _) | (with_reducible refine Kd.C_drewN ?_ _) | (with_reducible refine Kd.C_drew ?_))); (case side2 => exact (Kd.R_reads' HO_5.out).2.1); (case side3 => repeat (first | exact (Kd.R_reads' HO262.out).2.2 | (with_reducible refine Kd.C_alloc ?_ _) | (with_reducible refine Kd.C_drewN ?_ _) | (with_reducible refine Kd.C_drew ?_))); (case side4 => rw [show y265.length = y260.length from (Kd.R_reads' HO262.out).1.symm]; exact (Kd.R_reads' HO262.out).2.1); rintro e w89 ⟨rfl, hb⟩; have n0_ := Aside0.mk (Kd.R_below (by (with_reducible repeat (first | apply Kd.R_alloc | apply Kd.R_drewN | apply Kd.R_drew)); exact HO_5.out) hb); have n1_ := Aside0.mk (Kd.R_below (by (with_reducible repeat (first | apply Kd.R_alloc | apply Kd.R_drewN | apply Kd.R_drew)); exact HO_11.out) hb); have n2_ := Aside0.mk (Kd.R_below (by (with_reducible repeat (first | apply Kd.R_alloc | apply Kd.R_drewN | apply Kd.R_drew)); exact HO262.out) hb); have n3_ := Aside0.mk (below_step (by repeat (first | (with_reducible first | exact HB.out | apply below_alloc | apply pw_below_drewN | apply below_drew1) | exact HB.out)) hb); clear HO_5; clear HO_11; clear HO262; clear HB; have HO_5 := n0_; have HO_11 := n1_; have HO262 := n2_; have HB := n3_; clear n0_ n1_ n2_ n3_; (try clear hb); (try clear hb2); (try clear hk); (try clear hi)))
                      repeat (go_quiet (fail); try go_wp2_with (first | ((with_reducible refine gate_dst (N := 201) rfl ?_); (try (refine gate_guard (by rfl) ?_; dsimp only)); refine Kd.R_lit (Kd.int .i64) _ 2 ?hg (N := 201) ?hd (xs := ([] : List Int)) (inner := []) (ok := fun _ => True) (okp := fun _ => True) ?hr ?hp (fun _ hk => hk) trivial (Below.refl _ _) (Nat.le_refl _) (by simp) ?_; (case hd => rfl); (case hg => rfl); (case hr => first | (go_simp; done) | (go_simp; rfl)); (case hp => exact (Reps.none _ _)); intro v258 w83 ho84 hb hg_ hnew_; clear hg_ hnew_; (first | rw [← Ny257.out] at ho84 | (simp only [Int.reduceToNat] at ho84; rw [← Ny257.out] at ho84)); have n0_ := Aside0.mk (Kd.R_elder' (by (with_reducible repeat (first | apply Kd.R_alloc | apply Kd.R_drewN | apply Kd.R_drew)); exact HO_5.out) (Kd.R_base ho84) hb); have n1_ := Aside0.mk (Kd.R_elder' (by (with_reducible repeat (first | apply Kd.R_alloc | apply Kd.R_drewN | apply Kd.R_drew)); exact HO_11.out) (Kd.R_base ho84) hb); have n2_ := Aside0.mk (Kd.R_lower (Kd.R_new' (Kd.R_new' ho84 (Kd.R_lt (by (with_reducible repeat (first | apply Kd.R_alloc | apply Kd.R_drewN | apply Kd.R_drew)); exact HO_5.out))) (Kd.R_lt (by (with_reducible repeat (first | apply Kd.R_alloc | apply Kd.R_drewN | apply Kd.R_drew)); exact HO_11.out))) (below_size (by repeat (first | (with_reducible first | exact HB.out | apply below_alloc | apply pw_below_drewN | apply below_drew1) | exact HB.out)))); have n3_ := Aside0.mk (below_step (by repeat (first | (with_reducible first | exact HB.out | apply below_alloc | apply pw_below_drewN | apply below_drew1) | exact HB.out)) hb); clear HO_5; clear HO_11; clear HB; have HO_5 := n0_; have HO_11 := n1_; have HO259 := n2_; have HB := n3_; clear n0_ n1_ n2_ n3_; clear hb ho84) | ((with_reducible refine gate_builtin (b := .append) (xs := #[.tmp 201, .tmp 202]) rfl ?_); (try (refine gate_guard (by rfl) ?_; dsimp only)); at_builtin; refine Kd.R_append_rows (Kd.int .i64) (w0 := w) w.heap.size rfl (.tmp 201) (.tmp 202) 38 2 (.int .i64 0) 8 rfl Try.underlying38 info2 rfl (by decide) (by omega) v258 y257 t239 _ _ _ (fun k_ => some k_ ≠ (.slice Ao15 t229.length co15 : Value).ownBlock ∧ some k_ ≠ (.slice Ao33 t239.length co33 : Value).ownBlock) (fun _ => False) rfl rfl ?aO ?aR (fun _ _ h => h) (fun _ h => h.elim) ?aF ?aB ?aS ?aL ?_; (case aR => repeat (first | exact (Kd.R_reads' HO_11.out).2.2 | (with_reducible refine Kd.C_alloc ?_ _) | (with_reducible refine Kd.C_drewN ?_ _) | (with_reducible refine Kd.C_drew ?_))); (case aB => exact (by repeat (first | (with_reducible first | exact HB.out | apply below_alloc | apply pw_below_drewN | apply below_drew1) | exact HB.out))); (case aF => exact (fun k_ hk => ⟨Kd.fresh' (Kd.R_lt (by (with_reducible repeat (first | apply Kd.R_alloc | apply Kd.R_drewN | apply Kd.R_drew)); exact HO_5.out)) k_ hk, Kd.fresh' (Kd.R_lt (by (with_reducible repeat (first | apply Kd.R_alloc | apply Kd.R_drewN | apply Kd.R_drew)); exact HO_11.out)) k_ hk⟩)); (case aO => exact (by (with_reducible repeat (first | apply Kd.R_alloc | apply Kd.R_drewN | apply Kd.R_drew)); exact Kd.R_mono HO259.out (fun _ hk => ⟨hk.1.2, hk.2⟩))); (case aS => exact (below_size (by repeat (first | (with_reducible first | exact HB.out | apply below_alloc | apply pw_below_drewN | apply below_drew1) | exact HB.out)))); (case aL => have := LMc61.out; omega); intro v261 w85 ho hb hg hat; rw [← Ny260.out] at ho; have n0_ := Aside0.mk (Kd.R_after (ok := (fun k_ => some k_ ≠ (.slice Ao33 t239.length co33 : Value).ownBlock)) (by (with_reducible repeat (first | apply Kd.R_alloc | apply Kd.R_drewN | apply Kd.R_drew)); exact HO_5.out) hg hat); have n1_ := Aside0.mk (Kd.R_after (ok := (fun k_ => some k_ ≠ (.slice Ao15 t229.length co15 : Value).ownBlock)) (by (with_reducible repeat (first | apply Kd.R_alloc | apply Kd.R_drewN | apply Kd.R_drew)); exact HO_11.out) hg hat); have n2_ := Aside0.mk (hb); have n3_ := Aside0.mk (ho); clear HO_5; clear HO_11; clear HB; clear HO259; have HO_5 := n0_; have HO_11 := n1_; have HB := n2_; have HO262 := n3_; clear n0_ n1_ n2_ n3_; clear ho hb hg hat) | (go_at_call 46; (with_reducible refine (laws_a2At.calls _ _ l1 2 (t239.length : Int) t263 _ ?side1 ?side2 A62.out).mono ?_); (case side1 => repeat (first | exact (Kd.C_below HR1.out HB.out) | (with_reducible refine Kd.C_alloc ?_ _) | (with_reducible refine Kd.C_drewN ?_ _) | (with_reducible refine Kd.C_drew ?_))); (case side2 => exact HC1.out); rintro e w' ⟨rfl, ⟨nd, rfl⟩⟩; (try first | exact ⟨rfl, _, World.drewN_drewN _ _ _⟩ | exact ⟨rfl, _, Eq.trans (World.drewN_drewN _ _ _) (congrArg (World.drewN _) (Nat.add_assoc _ _ _))⟩); obtain ⟨Ao86, co86, eo86⟩ := Kd.R_slice HO262.out; subst eo86; have p264 : 0 ≤ (t263 : Int) := of_decide_eq_true (by first | (with_reducible assumption) | assumption); have q264 : t263 < (y260.length : Int) := of_decide_eq_true (by first | (with_reducible assumption) | assumption); obtain ⟨ad264, e264, hx264_0⟩ := Kd.at_int (Kd.R_reads' HO262.out).2.2 t263 p264 q264; cases e264; replace p264 := eq_true p264; replace q264 := eq_true q264; have p65 : 0 ≤ (t263 : Int) := of_decide_eq_true (by first | (with_reducible assumption) | assumption); have q65 : (t263 : Int) < ((y260.length : Int) : Int) := of_decide_eq_true (by first | (with_reducible assumption) | assumption); obtain ⟨go65, co65, eo65, gb65, gl65, cl65, HG65⟩ := Kd.R_form HO262.out (by omega); (first | cases eo65 | (injection eo65 with ea_ en_ ec_; (first | subst ea_ | (injection ea_ with ea_; subst ea_)); subst ec_; clear en_)); have GB65 := Aside0.mk gb65; have GG65 := Aside0.mk HG65; clear gb65 gl65 HG65; (first | simp only [add_plain] at hx264_0 | skip); obtain ⟨hx65_0, hf65_0⟩ := Kd.R_celln 0 HO262.out (t263 : Int) p65 q65; replace p65 := eq_true p65; replace q65 := eq_true q65; obtain ⟨hy87_, hz87_⟩ := Kd.R_celln 0 HO262.out (t263 : Int) (of_decide_eq_true (by first | (with_reducible assumption) | assumption)) (of_decide_eq_true (by first | (with_reducible assumption) | assumption)); have HP87 := Kd.R_putg HO262.out (t263 : Int) (wrap64 ((rd y260 t263) + 1))) | ((with_reducible refine gate_store (t := 2) (p := 212) rfl ?_); (try (rw [drewN_self w85]; generalize hq_ : World.drewN w85 _ = w85; have n0_ := Aside0.mk (Kd.R_at hq_ HO_5.out); have n1_ := Aside0.mk (Kd.R_at hq_ HO_11.out); have n2_ := Aside0.mk (Kd.R_at hq_ HO262.out); have n3_ := Aside0.mk (below_at hq_ HB.out); clear hq_ HO_5 HO_11 HO262 HB; have HO_5 := n0_; have HO_11 := n1_; have HO262 := n2_; have HB := n3_; clear n0_ n1_ n2_ n3_; (try (obtain ⟨hy87_, hz87_⟩ := Kd.R_celln 0 HO262.out (t263 : Int) (of_decide_eq_true (by first | (with_reducible assumption) | assumption)) (of_decide_eq_true (by first | (with_reducible assumption) | assumption)))); (try (have HP87 := Kd.R_putg HO262.out (t263 : Int) (wrap64 ((rd y260 t263) + 1)))))); refine store_event (t := 2) (p := 212) (v := ?vo_w88) (w1 := (w85.setCell ⟨go65, (t263 : Int).toNat, none⟩ (.int .i64 (wrap64 ((rd y260 t263) + 1))))) ?hg ?ho ?hn ?hr ?_; (case ho => rfl); (case hg => rfl); (case hn => rfl); (case hr => first | (go_simp; done) | (go_simp; rfl)); intro w88 hw; have hg : w85.grownBy w88 (some go65) := (by rw [hw]; exact HP87.2); have hp_ : Kd.R (Kd.int .i64) 2 w88 w.heap.size (fun k_ => some k_ ≠ (.slice Ao15 t229.length co15 : Value).ownBlock ∧ some k_ ≠ (.slice Ao33 t239.length co33 : Value).ownBlock) (.slice (some ⟨go65, 0, none⟩) y260.length co86) y265 := (by rw [hw, Ny265.out]; exact HP87.1); clear HP87; have n0_ := Aside0.mk (Kd.R_after (v := (.slice (some ⟨go65, 0, none⟩) y260.length co86)) (v1 := (.slice (some ⟨go65, 0, none⟩) y260.length co86)) (ok := (fun k_ => some k_ ≠ (.slice Ao33 t239.length co33 : Value).ownBlock)) (by (with_reducible repeat (first | apply Kd.R_alloc | apply Kd.R_drewN | apply Kd.R_drew)); exact HO_5.out) hg (.inl rfl)); have n1_ := Aside0.mk (Kd.R_after (v := (.slice (some ⟨go65, 0, none⟩) y260.length co86)) (v1 := (.slice (some ⟨go65, 0, none⟩) y260.length co86)) (ok := (fun k_ => some k_ ≠ (.slice Ao15 t229.length co15 : Value).ownBlock)) (by (with_reducible repeat (first | apply Kd.R_alloc | apply Kd.R_drewN | apply Kd.R_drew)); exact HO_11.out) hg (.inl rfl)); have n2_ := Aside0.mk (hp_); have n3_ := Aside0.mk ((by rw [hw]; exact below_set (HB.out) GB65.out : Below w.heap.size w w88)); clear HO_5; clear HO_11; clear HO262; clear HB; have HO_5 := n0_; have HO_11 := n1_; have HO262 := n2_; have HB := n3_; clear n0_ n1_ n2_ n3_; clear hg hw hp_) | (go_at_call 31; refine calls_of_args (args' := #[.slice Ao15 t229.length co15, .int .i64 (wrap64 (t232 + (wrap64 (7 * t233)))), .slice (some ⟨go65, 0, none⟩) y265.length co86]) (by first | (rw [show y265.length = y260.length from (Kd.R_reads' HO262.out).1.symm] <;> rfl) | rfl) ?_; (with_reducible refine (impl_CheckShares.calls k4 _ _ t229 (wrap64 (t232 + (wrap64 (7 * t233)))) _ _ y265 t266 t267 _ ?side1 ?side2 ?side3 ?side4 A66.out).mono ?_); (case side1 => repeat (first | exact (Kd.R_reads' HO_5.out).2.2 | (with_reducible refine Kd.C_alloc ?_ _) | (with_reducible refine Kd.C_drewN ?_ _) | (with_reducible refine Kd.C_drew ?_))); (case side2 => exact (Kd.R_reads' HO_5.out).2.1); (case side3 => repeat (first | exact (Kd.R_reads' HO262.out).2.2 | (with_reducible refine Kd.C_alloc ?_ _) | (with_reducible refine Kd.C_drewN ?_ _) | (with_reducible refine Kd.C_drew ?_))); (case side4 => rw [show y265.length = y260.length from (Kd.R_reads' HO262.out).1.symm]; exact (Kd.R_reads' HO262.out).2.1); rintro e w89 ⟨rfl, hb⟩; have n0_ := Aside0.mk (Kd.R_below (by (with_reducible repeat (first | apply Kd.R_alloc | apply Kd.R_drewN | apply Kd.R_drew)); exact HO_5.out) hb); have n1_ := Aside0.mk (Kd.R_below (by (with_reducible repeat (first | apply Kd.R_alloc | apply Kd.R_drewN | apply Kd.R_drew)); exact HO_11.out) hb); have n2_ := Aside0.mk (Kd.R_below (by (with_reducible repeat (first | apply Kd.R_alloc | apply Kd.R_drewN | apply Kd.R_drew)); exact HO262.out) hb); have n3_ := Aside0.mk (below_step (by repeat (first | (with_reducible first | exact HB.out | apply below_alloc | apply pw_below_drewN | apply below_drew1) | exact HB.out)) hb); clear HO_5; clear HO_11; clear HO262; clear HB; have HO_5 := n0_; have HO_11 := n1_; have HO262 := n2_; have HB := n3_; clear n0_ n1_ n2_ n3_; (try clear hb); (try clear hb2); (try clear hk); (try clear hi))))
                      go_ret
                      exact ⟨by first | rfl | (simp [errW_none, errW_some] <;> rfl) | (simp [*, errW_none, errW_some] <;> rfl), by repeat (first | (with_reducible first | exact HB.out | apply below_alloc | apply pw_below_drewN | apply below_drew1) | exact HB.out)⟩
                    ·rw [if_neg c64] at H
                     exact absurd H (by simp)
                   ·rw [if_neg c63] at H
                    exact absurd H (by simp)
                  ·rw [if_neg c61] at H
                   exact absurd H (by simp)
                 ·rw [if_neg c60] at H
                  have c60b0 : decide (0 < (t239.length : Int)) = false := decide_eq_false c60
                  have c60b1 : decide (0 < t239.length) = false := decide_eq_false (by omega)
                  clear c60
                  have H' := Aside0.mk H
                  clear H
                  go_wp2
                  repeat (go_quiet (fail); try go_wp2)
                  go_meet
                  case rel => exact ⟨_, (t229), H', ⟨by have := HK1.out; have := HJ13.out; have := HJ31.out; have := HK4.out; first | omega | exact Nat.le_refl _⟩, ⟨by (with_reducible repeat (first | apply Kd.R_alloc | apply Kd.R_drewN | apply Kd.R_drew)); exact Kd.R_mono HO_5.out (fun _ hk => trivial)⟩, ⟨by repeat (first | (with_reducible first | exact HB.out | apply below_alloc | apply pw_below_drewN | apply below_drew1) | exact HB.out)⟩⟩
                ·rw [if_neg c59] at H
                 have c59b0 : (x15_4 == (wrap64 (t232 + (wrap64 (7 * t233))))) = false := beq_eq_false_iff_ne.mpr c59
                 have c59b1 : (x15_4 != (wrap64 (t232 + (wrap64 (7 * t233))))) = true := bne_iff_ne.mpr c59
                 obtain rfl := Option.some.inj H
                 go_wp2
                 repeat (go_quiet (fail); try go_wp2)
                 go_ret
                 exact ⟨by first | rfl | (simp [errW_none, errW_some] <;> rfl) | (simp [*, errW_none, errW_some] <;> rfl), by repeat (first | (with_reducible first | exact HB.out | apply below_alloc | apply pw_below_drewN | apply below_drew1) | exact HB.out)⟩
         ·rw [if_neg c30] at H
          have c30b0 : (t236 == 0) = false := beq_eq_false_iff_ne.mpr c30
          have c30b1 : (t236 != 0) = true := bne_iff_ne.mpr c30
          (first | rw [c30b0] | (simp only [i64_w, i32_w]; rw [c30b0]) | skip)
          have H' := Aside0.mk H
          clear H
          go_wp2
          repeat (go_quiet (fail); try go_wp2)
          go_meet
          case rel => exact ⟨_, (t229), H', ⟨by have := HK1.out; have := HJ13.out; first | omega | exact Nat.le_refl _⟩, ⟨by (with_reducible repeat (first | apply Kd.R_alloc | apply Kd.R_drewN | apply Kd.R_drew)); exact Kd.R_mono HO_5.out (fun _ hk => trivial)⟩, ⟨by repeat (first | (with_reducible first | exact HB.out | apply below_alloc | apply pw_below_drewN | apply below_drew1) | exact HB.out)⟩⟩
        case rest => as_aux_lemma =>
         clear HC29
         try clear c1
         try clear c2
         try clear p2
         try clear q2
         try clear hx2
         try clear c3
         try clear c4
         try clear c5
         try clear c6
         try clear p6
         try clear q6
         try clear hx6
         try clear hf6
         try clear c9
         try clear c9b0
         try clear c10
         try clear c10b0
         try clear c14
         try clear c18
         try clear c18b0
         try clear c18b1
         try clear c20
         try clear c21
         try clear c21b0
         try clear c21b1
         try clear p23
         try clear q23
         try clear hx23
         try clear p24
         try clear q24
         try clear hx24
         try clear p25
         try clear q25
         try clear hx25
         try clear p26
         try clear q26
         try clear hx26
         try clear c28
         try clear c30
         try clear c30b0
         try clear c30b1
         try clear c35
         try clear c35b0
         try clear c35b1
         try clear c36
         try clear c37
         try clear c38
         try clear c38b0
         try clear c40
         try clear c40b0
         try clear c41
         try clear c41b0
         try clear c42
         try clear c42b0
         try clear c43
         try clear c43b0
         try clear c44
         try clear c44b0
         try clear c45
         try clear c45b0
         try clear c45b1
         try clear c46
         try clear c46b0
         try clear c46b1
         try clear c47
         try clear c47b0
         try clear c48
         try clear c49
         try clear c49b0
         try clear c50
         try clear c50b0
         try clear c51
         try clear c51b0
         try clear c52
         try clear c52b0
         try clear c53
         try clear c53b0
         try clear c54
         try clear c54b0
         try clear c55
         try clear c55b0
         try clear c56
         try clear c56b0
         try clear c57
         try clear c57b0
         try clear c58
         try clear c58b0
         try clear c59
         try clear c59b0
         try clear c59b1
         try clear c60
         try clear c60b0
         try clear c60b1
         try clear c61
         try clear c63
         try clear c63b0
         try clear c64
         try clear c64b0
         try clear p64
         try clear p65
         try clear q65
         try clear hx65
         try clear hf65
         try clear c67
         try clear c67b0
         try clear c67b1
         try clear c68
         try clear hx234_0
         try clear hx246_0
         try clear hx247_0
         try clear hx248_0
         try clear hx249_0
         try clear hx250_0
         try clear hx251_0
         try clear hx252_0
         try clear hx253_0
         try clear hx254_0
         try clear hx255_0
         try clear hx256_0
         try clear hx264_0
         try clear hx65_0
         try clear p2
         try clear p23
         try clear p234
         try clear p24
         try clear p246
         try clear p247
         try clear p248
         try clear p249
         try clear p25
         try clear p250
         try clear p251
         try clear p252
         try clear p253
         try clear p254
         try clear p255
         try clear p256
         try clear p264
         try clear p6
         try clear p65
         try clear q2
         try clear q23
         try clear q234
         try clear q24
         try clear q246
         try clear q247
         try clear q248
         try clear q249
         try clear q25
         try clear q250
         try clear q251
         try clear q252
         try clear q253
         try clear q254
         try clear q255
         try clear q256
         try clear q264
         try clear q65
         obtain ⟨kq, x5_28, HA, HJ28, HO_5, HB⟩ := hcut
         have hl5_28 := (Kd.R_reads' HO_5.out).1
         rw [hl5_28] at HO_5
         (try simp only [hl5_28])
         cases kq with
         | zero => exact absurd HA.out (by simp [laws_FnShares.j6])
         | succ kj28 =>
          have H := HA.out
          clear HA
          simp only [laws_FnShares.j6] at H
          replace H := Option.bind_eq_some_iff.mp H
          obtain ⟨⟨t268, t269⟩, A900, H⟩ := H
          replace H : ((spec_EqualAwards.f kj28 x5_28 (wrap64 (t232 + (wrap64 (7 * t233))))).bind fun bt272 => ((impl_CheckAwards.f kj28 x5_28 (wrap64 (t232 + (wrap64 (7 * t233)))) bt272.1).bind fun bt276 => (if t269 = bt272.2 then (if t269 = 0 then ((spec_A2Same.f kj28 t268 bt272.1).bind fun t278 => (if t278 = true then (if bt276.2 = 0 then (if bt276.1 = true then (laws_FnShares.j7 kj28 x5_28 (wrap64 (t232 + (wrap64 (7 * t233)))) x7_1 bt272.1 ((bt272.1.length : Int) != (x5_28.length : Int))) else (laws_FnShares.j7 kj28 x5_28 (wrap64 (t232 + (wrap64 (7 * t233)))) x7_1 bt272.1 true)) else (laws_FnShares.j7 kj28 x5_28 (wrap64 (t232 + (wrap64 (7 * t233)))) x7_1 bt272.1 true)) else (laws_FnShares.j7 kj28 x5_28 (wrap64 (t232 + (wrap64 (7 * t233)))) x7_1 bt272.1 true))) else (laws_FnShares.j7 kj28 x5_28 (wrap64 (t232 + (wrap64 (7 * t233)))) x7_1 bt272.1 true)) else (laws_FnShares.j7 kj28 x5_28 (wrap64 (t232 + (wrap64 (7 * t233)))) x7_1 bt272.1 true)))) = some r := H
          have A90 := Aside0.mk A900
          clear A900
          replace H := Option.bind_eq_some_iff.mp H
          obtain ⟨⟨t272, t273⟩, A910, H⟩ := H
          replace H : ((impl_CheckAwards.f kj28 x5_28 (wrap64 (t232 + (wrap64 (7 * t233)))) t272).bind fun bt276 => (if t269 = t273 then (if t269 = 0 then ((spec_A2Same.f kj28 t268 t272).bind fun t278 => (if t278 = true then (if bt276.2 = 0 then (if bt276.1 = true then (laws_FnShares.j7 kj28 x5_28 (wrap64 (t232 + (wrap64 (7 * t233)))) x7_1 t272 ((t272.length : Int) != (x5_28.length : Int))) else (laws_FnShares.j7 kj28 x5_28 (wrap64 (t232 + (wrap64 (7 * t233)))) x7_1 t272 true)) else (laws_FnShares.j7 kj28 x5_28 (wrap64 (t232 + (wrap64 (7 * t233)))) x7_1 t272 true)) else (laws_FnShares.j7 kj28 x5_28 (wrap64 (t232 + (wrap64 (7 * t233)))) x7_1 t272 true))) else (laws_FnShares.j7 kj28 x5_28 (wrap64 (t232 + (wrap64 (7 * t233)))) x7_1 t272 true)) else (laws_FnShares.j7 kj28 x5_28 (wrap64 (t232 + (wrap64 (7 * t233)))) x7_1 t272 true))) = some r := H
          have A91 := Aside0.mk A910
          clear A910
          replace H := Option.bind_eq_some_iff.mp H
          obtain ⟨⟨t276, t277⟩, A920, H⟩ := H
          replace H : (if t269 = t273 then (if t269 = 0 then ((spec_A2Same.f kj28 t268 t272).bind fun t278 => (if t278 = true then (if t277 = 0 then (if t276 = true then (laws_FnShares.j7 kj28 x5_28 (wrap64 (t232 + (wrap64 (7 * t233)))) x7_1 t272 ((t272.length : Int) != (x5_28.length : Int))) else (laws_FnShares.j7 kj28 x5_28 (wrap64 (t232 + (wrap64 (7 * t233)))) x7_1 t272 true)) else (laws_FnShares.j7 kj28 x5_28 (wrap64 (t232 + (wrap64 (7 * t233)))) x7_1 t272 true)) else (laws_FnShares.j7 kj28 x5_28 (wrap64 (t232 + (wrap64 (7 * t233)))) x7_1 t272 true))) else (laws_FnShares.j7 kj28 x5_28 (wrap64 (t232 + (wrap64 (7 * t233)))) x7_1 t272 true)) else (laws_FnShares.j7 kj28 x5_28 (wrap64 (t232 + (wrap64 (7 * t233)))) x7_1 t272 true)) = some r := H
          have A92 := Aside0.mk A920
          clear A920
          have HC93 := Aside0.mk H
          clear H
          go_upto_region 41 with (first | (go_at_call 37; (with_reducible refine (impl_EqualAwards.calls kj28 _ _ x5_28 (wrap64 (t232 + (wrap64 (7 * t233)))) t268 t269 _ ?side1 ?side2 A90.out).mono ?_); (case side1 => repeat (first | exact (Kd.R_reads' HO_5.out).2.2 | (with_reducible refine Kd.C_alloc ?_ _) | (with_reducible refine Kd.C_drewN ?_ _) | (with_reducible refine Kd.C_drew ?_))); (case side2 => exact (Kd.R_reads' HO_5.out).2.1); rintro e w94 ⟨v270, rfl, ho0, hb⟩; have n0_ := Aside0.mk (Kd.R_elder' (by (with_reducible repeat (first | apply Kd.R_alloc | apply Kd.R_drewN | apply Kd.R_drew)); exact HO_5.out) (Kd.R_base ho0) hb); have n1_ := Aside0.mk (Kd.R_lower (Kd.R_new' ho0 (Kd.R_lt (by (with_reducible repeat (first | apply Kd.R_alloc | apply Kd.R_drewN | apply Kd.R_drew)); exact HO_5.out))) (below_size (by repeat (first | (with_reducible first | exact HB.out | apply below_alloc | apply pw_below_drewN | apply below_drew1) | exact HB.out)))); have n2_ := Aside0.mk (below_step (by repeat (first | (with_reducible first | exact HB.out | apply below_alloc | apply pw_below_drewN | apply below_drew1) | exact HB.out)) hb); clear HO_5; clear HB; have HO_5 := n0_; have HO271 := n1_; have HB := n2_; clear n0_ n1_ n2_; (try clear hb); (try clear hb2); (try clear hk); (try clear hi); (try clear ho0)) | (go_at_call 36; (with_reducible refine (spec_EqualAwards.calls kj28 _ _ x5_28 (wrap64 (t232 + (wrap64 (7 * t233)))) t272 t273 _ ?side1 ?side2 A91.out).mono ?_); (case side1 => repeat (first | exact (Kd.R_reads' HO_5.out).2.2 | (with_reducible refine Kd.C_alloc ?_ _) | (with_reducible refine Kd.C_drewN ?_ _) | (with_reducible refine Kd.C_drew ?_))); (case side2 => exact (Kd.R_reads' HO_5.out).2.1); rintro e w95 ⟨v274, rfl, ho0, hb⟩; have n0_ := Aside0.mk (Kd.R_elder' (by (with_reducible repeat (first | apply Kd.R_alloc | apply Kd.R_drewN | apply Kd.R_drew)); exact HO_5.out) (Kd.R_base ho0) hb); have n1_ := Aside0.mk (Kd.R_elder' (by (with_reducible repeat (first | apply Kd.R_alloc | apply Kd.R_drewN | apply Kd.R_drew)); exact HO271.out) (Kd.R_base ho0) hb); have n2_ := Aside0.mk (Kd.R_lower (Kd.R_new' (Kd.R_new' ho0 (Kd.R_lt (by (with_reducible repeat (first | apply Kd.R_alloc | apply Kd.R_drewN | apply Kd.R_drew)); exact HO_5.out))) (Kd.R_lt (by (with_reducible repeat (first | apply Kd.R_alloc | apply Kd.R_drewN | apply Kd.R_drew)); exact HO271.out))) (below_size (by repeat (first | (with_reducible first | exact HB.out | apply below_alloc | apply pw_below_drewN | apply below_drew1) | exact HB.out)))); have n3_ := Aside0.mk (below_step (by repeat (first | (with_reducible first | exact HB.out | apply below_alloc | apply pw_below_drewN | apply below_drew1) | exact HB.out)) hb); clear HO_5; clear HO271; clear HB; have HO_5 := n0_; have HO271 := n1_; have HO275 := n2_; have HB := n3_; clear n0_ n1_ n2_ n3_; (try clear hb); (try clear hb2); (try clear hk); (try clear hi); (try clear ho0); obtain ⟨Ao96, co96, eo96⟩ := Kd.R_slice HO275.out; subst eo96) | (go_at_call 28; (with_reducible refine (impl_CheckAwards.calls kj28 _ _ x5_28 (wrap64 (t232 + (wrap64 (7 * t233)))) _ _ t272 t276 t277 _ ?side1 ?side2 ?side3 ?side4 A92.out).mono ?_); (case side1 => repeat (first | exact (Kd.R_reads' HO_5.out).2.2 | (with_reducible refine Kd.C_alloc ?_ _) | (with_reducible refine Kd.C_drewN ?_ _) | (with_reducible refine Kd.C_drew ?_))); (case side2 => exact (Kd.R_reads' HO_5.out).2.1); (case side3 => repeat (first | exact (Kd.R_reads' HO275.out).2.2 | (with_reducible refine Kd.C_alloc ?_ _) | (with_reducible refine Kd.C_drewN ?_ _) | (with_reducible refine Kd.C_drew ?_))); (case side4 => exact (Kd.R_reads' HO275.out).2.1); rintro e w97 ⟨rfl, hb⟩; have n0_ := Aside0.mk (Kd.R_below (by (with_reducible repeat (first | apply Kd.R_alloc | apply Kd.R_drewN | apply Kd.R_drew)); exact HO_5.out) hb); have n1_ := Aside0.mk (Kd.R_below (by (with_reducible repeat (first | apply Kd.R_alloc | apply Kd.R_drewN | apply Kd.R_drew)); exact HO271.out) hb); have n2_ := Aside0.mk (Kd.R_below (by (with_reducible repeat (first | apply Kd.R_alloc | apply Kd.R_drewN | apply Kd.R_drew)); exact HO275.out) hb); have n3_ := Aside0.mk (below_step (by repeat (first | (with_reducible first | exact HB.out | apply below_alloc | apply pw_below_drewN | apply below_drew1) | exact HB.out)) hb); clear HO_5; clear HO271; clear HO275; clear HB; have HO_5 := n0_; have HO271 := n1_; have HO275 := n2_; have HB := n3_; clear n0_ n1_ n2_ n3_; (try clear hb); (try clear hb2); (try clear hk); (try clear hi)))
          repeat (go_quiet (fail); go_upto_region 41 with (first | (go_at_call 37; (with_reducible refine (impl_EqualAwards.calls kj28 _ _ x5_28 (wrap64 (t232 + (wrap64 (7 * t233)))) t268 t269 _ ?side1 ?side2 A90.out).mono ?_); (case side1 => repeat (first | exact (Kd.R_reads' HO_5.out).2.2 | (with_reducible refine Kd.C_alloc ?_ _) | (with_reducible refine Kd.C_drewN ?_ _) | (with_reducible refine Kd.C_drew ?_))); (case side2 => exact (Kd.R_reads' HO_5.out).2.1); rintro e w94 ⟨v270, rfl, ho0, hb⟩; have n0_ := Aside0.mk (Kd.R_elder' (by (with_reducible repeat (first | apply Kd.R_alloc | apply Kd.R_drewN | apply Kd.R_drew)); exact HO_5.out) (Kd.R_base ho0) hb); have n1_ := Aside0.mk (Kd.R_lower (Kd.R_new' ho0 (Kd.R_lt (by (with_reducible repeat (first | apply Kd.R_alloc | apply Kd.R_drewN | apply Kd.R_drew)); exact HO_5.out))) (below_size (by repeat (first | (with_reducible first | exact HB.out | apply below_alloc | apply pw_below_drewN | apply below_drew1) | exact HB.out)))); have n2_ := Aside0.mk (below_step (by repeat (first | (with_reducible first | exact HB.out | apply below_alloc | apply pw_below_drewN | apply below_drew1) | exact HB.out)) hb); clear HO_5; clear HB; have HO_5 := n0_; have HO271 := n1_; have HB := n2_; clear n0_ n1_ n2_; (try clear hb); (try clear hb2); (try clear hk); (try clear hi); (try clear ho0)) | (go_at_call 36; (with_reducible refine (spec_EqualAwards.calls kj28 _ _ x5_28 (wrap64 (t232 + (wrap64 (7 * t233)))) t272 t273 _ ?side1 ?side2 A91.out).mono ?_); (case side1 => repeat (first | exact (Kd.R_reads' HO_5.out).2.2 | (with_reducible refine Kd.C_alloc ?_ _) | (with_reducible refine Kd.C_drewN ?_ _) | (with_reducible refine Kd.C_drew ?_))); (case side2 => exact (Kd.R_reads' HO_5.out).2.1); rintro e w95 ⟨v274, rfl, ho0, hb⟩; have n0_ := Aside0.mk (Kd.R_elder' (by (with_reducible repeat (first | apply Kd.R_alloc | apply Kd.R_drewN | apply Kd.R_drew)); exact HO_5.out) (Kd.R_base ho0) hb); have n1_ := Aside0.mk (Kd.R_elder' (by (with_reducible repeat (first | apply Kd.R_alloc | apply Kd.R_drewN | apply Kd.R_drew)); exact HO271.out) (Kd.R_base ho0) hb); have n2_ := Aside0.mk (Kd.R_lower (Kd.R_new' (Kd.R_new' ho0 (Kd.R_lt (by (with_reducible repeat (first | apply Kd.R_alloc | apply Kd.R_drewN | apply Kd.R_drew)); exact HO_5.out))) (Kd.R_lt (by (with_reducible repeat (first | apply Kd.R_alloc | apply Kd.R_drewN | apply Kd.R_drew)); exact HO271.out))) (below_size (by repeat (first | (with_reducible first | exact HB.out | apply below_alloc | apply pw_below_drewN | apply below_drew1) | exact HB.out)))); have n3_ := Aside0.mk (below_step (by repeat (first | (with_reducible first | exact HB.out | apply below_alloc | apply pw_below_drewN | apply below_drew1) | exact HB.out)) hb); clear HO_5; clear HO271; clear HB; have HO_5 := n0_; have HO271 := n1_; have HO275 := n2_; have HB := n3_; clear n0_ n1_ n2_ n3_; (try clear hb); (try clear hb2); (try clear hk); (try clear hi); (try clear ho0); obtain ⟨Ao96, co96, eo96⟩ := Kd.R_slice HO275.out; subst eo96) | (go_at_call 28; (with_reducible refine (impl_CheckAwards.calls kj28 _ _ x5_28 (wrap64 (t232 + (wrap64 (7 * t233)))) _ _ t272 t276 t277 _ ?side1 ?side2 ?side3 ?side4 A92.out).mono ?_); (case side1 => repeat (first | exact (Kd.R_reads' HO_5.out).2.2 | (with_reducible refine Kd.C_alloc ?_ _) | (with_reducible refine Kd.C_drewN ?_ _) | (with_reducible refine Kd.C_drew ?_))); (case side2 => exact (Kd.R_reads' HO_5.out).2.1); (case side3 => repeat (first | exact (Kd.R_reads' HO275.out).2.2 | (with_reducible refine Kd.C_alloc ?_ _) | (with_reducible refine Kd.C_drewN ?_ _) | (with_reducible refine Kd.C_drew ?_))); (case side4 => exact (Kd.R_reads' HO275.out).2.1); rintro e w97 ⟨rfl, hb⟩; have n0_ := Aside0.mk (Kd.R_below (by (with_reducible repeat (first | apply Kd.R_alloc | apply Kd.R_drewN | apply Kd.R_drew)); exact HO_5.out) hb); have n1_ := Aside0.mk (Kd.R_below (by (with_reducible repeat (first | apply Kd.R_alloc | apply Kd.R_drewN | apply Kd.R_drew)); exact HO271.out) hb); have n2_ := Aside0.mk (Kd.R_below (by (with_reducible repeat (first | apply Kd.R_alloc | apply Kd.R_drewN | apply Kd.R_drew)); exact HO275.out) hb); have n3_ := Aside0.mk (below_step (by repeat (first | (with_reducible first | exact HB.out | apply below_alloc | apply pw_below_drewN | apply below_drew1) | exact HB.out)) hb); clear HO_5; clear HO271; clear HO275; clear HB; have HO_5 := n0_; have HO271 := n1_; have HO275 := n2_; have HB := n3_; clear n0_ n1_ n2_ n3_; (try clear hb); (try clear hb2); (try clear hk); (try clear hi))))
          (try simp only [Act.put, List.setIfInBounds_toArray, List.set_cons_zero, List.set_cons_succ])
          go_cut [271] (fun v271 wc => ∃ (kq : Nat) (x271_92 : Bool), v271 = .bool x271_92 ∧ Aside0 (laws_FnShares.j7 kq x5_28 (wrap64 (t232 + (wrap64 (7 * t233)))) x7_1 t272 x271_92 = some r) ∧ Aside0 (kq ≤ kj28) ∧ Aside0 (Kd.R (Kd.int .i64) 2 wc w.heap.size (fun k_ => some k_ ≠ ((.slice Ao96 t272.length co96) : Value).ownBlock) (.slice Ao15 x5_28.length co15) x5_28) ∧ Aside0 (Kd.R (Kd.int .i64) 2 wc w.heap.size (fun k_ => some k_ ≠ ((.slice Ao15 x5_28.length co15) : Value).ownBlock) (.slice Ao96 t272.length co96) t272) ∧ Aside0 (Below w.heap.size w wc))
          case first => as_aux_lemma =>
           have H := HC93.out
           clear HC93
           by_cases c98 : t269 = t273
           ·rw [if_pos c98] at H
            have c98b0 : (t269 == t273) = true := beq_iff_eq.mpr c98
            have c98b1 : (t269 != t273) = false := bne_eq_false_iff_eq.mpr c98
            clear c98
            (first | rw [c98b0] | (simp only [i64_w, i32_w]; rw [c98b0]) | skip)
            by_cases c99 : t269 = 0
            ·rw [if_pos c99] at H
             have c99b0 : (t269 == 0) = true := beq_iff_eq.mpr c99
             have c99b1 : (t269 != 0) = false := bne_eq_false_iff_eq.mpr c99
             clear c99
             replace H := Option.bind_eq_some_iff.mp H
             obtain ⟨t278, A1000, H⟩ := H
             replace H : (if t278 = true then (if t277 = 0 then (if t276 = true then (laws_FnShares.j7 kj28 x5_28 (wrap64 (t232 + (wrap64 (7 * t233)))) x7_1 t272 ((t272.length : Int) != (x5_28.length : Int))) else (laws_FnShares.j7 kj28 x5_28 (wrap64 (t232 + (wrap64 (7 * t233)))) x7_1 t272 true)) else (laws_FnShares.j7 kj28 x5_28 (wrap64 (t232 + (wrap64 (7 * t233)))) x7_1 t272 true)) else (laws_FnShares.j7 kj28 x5_28 (wrap64 (t232 + (wrap64 (7 * t233)))) x7_1 t272 true)) = some r := H
             have A100 := Aside0.mk A1000
             clear A1000
             by_cases c101 : t278 = true
             ·as_aux_lemma =>
              subst c101
              have H1 : (if t277 = 0 then (if t276 = true then (laws_FnShares.j7 kj28 x5_28 (wrap64 (t232 + (wrap64 (7 * t233)))) x7_1 t272 ((t272.length : Int) != (x5_28.length : Int))) else (laws_FnShares.j7 kj28 x5_28 (wrap64 (t232 + (wrap64 (7 * t233)))) x7_1 t272 true)) else (laws_FnShares.j7 kj28 x5_28 (wrap64 (t232 + (wrap64 (7 * t233)))) x7_1 t272 true)) = some r := by rw [if_pos rfl] at H; exact H
              clear H
              have H := H1
              clear H1
              by_cases c102 : t277 = 0
              ·rw [if_pos c102] at H
               have c102b0 : (t277 == 0) = true := beq_iff_eq.mpr c102
               have c102b1 : (t277 != 0) = false := bne_eq_false_iff_eq.mpr c102
               clear c102
               by_cases c103 : t276 = true
               ·as_aux_lemma =>
                subst c103
                have H1 : (laws_FnShares.j7 kj28 x5_28 (wrap64 (t232 + (wrap64 (7 * t233)))) x7_1 t272 ((t272.length : Int) != (x5_28.length : Int))) = some r := by rw [if_pos rfl] at H; exact H
                clear H
                have H := H1
                clear H1
                have H' := Aside0.mk H
                clear H
                obtain ⟨Ao104, co104, eo104⟩ := Kd.R_slice HO271.out
                subst eo104
                go_wp2_with (first | (go_at_call 47; (with_reducible refine (spec_A2Same.calls kj28 _ _ t268 _ _ t272 true _ ?side1 ?side2 ?side3 ?side4 A100.out).mono ?_); (case side1 => repeat (first | exact (Kd.R_reads' HO271.out).2.2 | (with_reducible refine Kd.C_alloc ?_ _) | (with_reducible refine Kd.C_drewN ?_ _) | (with_reducible refine Kd.C_drew ?_))); (case side2 => exact (Kd.R_reads' HO271.out).2.1); (case side3 => repeat (first | exact (Kd.R_reads' HO275.out).2.2 | (with_reducible refine Kd.C_alloc ?_ _) | (with_reducible refine Kd.C_drewN ?_ _) | (with_reducible refine Kd.C_drew ?_))); (case side4 => exact (Kd.R_reads' HO275.out).2.1); rintro e w' ⟨rfl, ⟨nd, rfl⟩⟩; (try first | exact ⟨rfl, _, World.drewN_drewN _ _ _⟩ | exact ⟨rfl, _, Eq.trans (World.drewN_drewN _ _ _) (congrArg (World.drewN _) (Nat.add_assoc _ _ _))⟩)))
                repeat (go_quiet (fail); try go_wp2_with (first | (go_at_call 47; (with_reducible refine (spec_A2Same.calls kj28 _ _ t268 _ _ t272 true _ ?side1 ?side2 ?side3 ?side4 A100.out).mono ?_); (case side1 => repeat (first | exact (Kd.R_reads' HO271.out).2.2 | (with_reducible refine Kd.C_alloc ?_ _) | (with_reducible refine Kd.C_drewN ?_ _) | (with_reducible refine Kd.C_drew ?_))); (case side2 => exact (Kd.R_reads' HO271.out).2.1); (case side3 => repeat (first | exact (Kd.R_reads' HO275.out).2.2 | (with_reducible refine Kd.C_alloc ?_ _) | (with_reducible refine Kd.C_drewN ?_ _) | (with_reducible refine Kd.C_drew ?_))); (case side4 => exact (Kd.R_reads' HO275.out).2.1); rintro e w' ⟨rfl, ⟨nd, rfl⟩⟩; (try first | exact ⟨rfl, _, World.drewN_drewN _ _ _⟩ | exact ⟨rfl, _, Eq.trans (World.drewN_drewN _ _ _) (congrArg (World.drewN _) (Nat.add_assoc _ _ _))⟩))))
                go_meet
                case rel => exact ⟨_, (((t272.length : Int) != (x5_28.length : Int))), (by first | rfl | (simp; done) | (simp [*]; done)), H', ⟨by have := HK1.out; have := HJ13.out; have := HJ28.out; first | omega | exact Nat.le_refl _⟩, ⟨by (try simp only [hl5_28]); (with_reducible repeat (first | apply Kd.R_alloc | apply Kd.R_drewN | apply Kd.R_drew)); exact Kd.R_mono HO_5.out (fun _ hk => hk.2)⟩, ⟨by (try simp only [hl5_28]); (with_reducible repeat (first | apply Kd.R_alloc | apply Kd.R_drewN | apply Kd.R_drew)); exact Kd.R_mono HO275.out (fun _ hk => hk.1.2)⟩, ⟨by repeat (first | (with_reducible first | exact HB.out | apply below_alloc | apply pw_below_drewN | apply below_drew1) | exact HB.out)⟩⟩
               ·as_aux_lemma =>
                replace c103 := Bool.eq_false_iff.mpr c103
                subst c103
                have H1 : (laws_FnShares.j7 kj28 x5_28 (wrap64 (t232 + (wrap64 (7 * t233)))) x7_1 t272 true) = some r := by rw [if_neg (show ¬ (false = true) by decide)] at H; exact H
                clear H
                have H := H1
                clear H1
                have H' := Aside0.mk H
                clear H
                obtain ⟨Ao105, co105, eo105⟩ := Kd.R_slice HO271.out
                subst eo105
                go_wp2_with (first | (go_at_call 47; (with_reducible refine (spec_A2Same.calls kj28 _ _ t268 _ _ t272 true _ ?side1 ?side2 ?side3 ?side4 A100.out).mono ?_); (case side1 => repeat (first | exact (Kd.R_reads' HO271.out).2.2 | (with_reducible refine Kd.C_alloc ?_ _) | (with_reducible refine Kd.C_drewN ?_ _) | (with_reducible refine Kd.C_drew ?_))); (case side2 => exact (Kd.R_reads' HO271.out).2.1); (case side3 => repeat (first | exact (Kd.R_reads' HO275.out).2.2 | (with_reducible refine Kd.C_alloc ?_ _) | (with_reducible refine Kd.C_drewN ?_ _) | (with_reducible refine Kd.C_drew ?_))); (case side4 => exact (Kd.R_reads' HO275.out).2.1); rintro e w' ⟨rfl, ⟨nd, rfl⟩⟩; (try first | exact ⟨rfl, _, World.drewN_drewN _ _ _⟩ | exact ⟨rfl, _, Eq.trans (World.drewN_drewN _ _ _) (congrArg (World.drewN _) (Nat.add_assoc _ _ _))⟩)))
                repeat (go_quiet (fail); try go_wp2_with (first | (go_at_call 47; (with_reducible refine (spec_A2Same.calls kj28 _ _ t268 _ _ t272 true _ ?side1 ?side2 ?side3 ?side4 A100.out).mono ?_); (case side1 => repeat (first | exact (Kd.R_reads' HO271.out).2.2 | (with_reducible refine Kd.C_alloc ?_ _) | (with_reducible refine Kd.C_drewN ?_ _) | (with_reducible refine Kd.C_drew ?_))); (case side2 => exact (Kd.R_reads' HO271.out).2.1); (case side3 => repeat (first | exact (Kd.R_reads' HO275.out).2.2 | (with_reducible refine Kd.C_alloc ?_ _) | (with_reducible refine Kd.C_drewN ?_ _) | (with_reducible refine Kd.C_drew ?_))); (case side4 => exact (Kd.R_reads' HO275.out).2.1); rintro e w' ⟨rfl, ⟨nd, rfl⟩⟩; (try first | exact ⟨rfl, _, World.drewN_drewN _ _ _⟩ | exact ⟨rfl, _, Eq.trans (World.drewN_drewN _ _ _) (congrArg (World.drewN _) (Nat.add_assoc _ _ _))⟩))))
                go_meet
                case rel => exact ⟨_, (true), (by first | rfl | (simp; done) | (simp [*]; done)), H', ⟨by have := HK1.out; have := HJ13.out; have := HJ28.out; first | omega | exact Nat.le_refl _⟩, ⟨by (try simp only [hl5_28]); (with_reducible repeat (first | apply Kd.R_alloc | apply Kd.R_drewN | apply Kd.R_drew)); exact Kd.R_mono HO_5.out (fun _ hk => hk.2)⟩, ⟨by (try simp only [hl5_28]); (with_reducible repeat (first | apply Kd.R_alloc | apply Kd.R_drewN | apply Kd.R_drew)); exact Kd.R_mono HO275.out (fun _ hk => hk.1.2)⟩, ⟨by repeat (first | (with_reducible first | exact HB.out | apply below_alloc | apply pw_below_drewN | apply below_drew1) | exact HB.out)⟩⟩
              ·rw [if_neg c102] at H
               have c102b0 : (t277 == 0) = false := beq_eq_false_iff_ne.mpr c102
               have c102b1 : (t277 != 0) = true := bne_iff_ne.mpr c102
               have H' := Aside0.mk H
               clear H
               obtain ⟨Ao106, co106, eo106⟩ := Kd.R_slice HO271.out
               subst eo106
               go_wp2_with (first | (go_at_call 47; (with_reducible refine (spec_A2Same.calls kj28 _ _ t268 _ _ t272 true _ ?side1 ?side2 ?side3 ?side4 A100.out).mono ?_); (case side1 => repeat (first | exact (Kd.R_reads' HO271.out).2.2 | (with_reducible refine Kd.C_alloc ?_ _) | (with_reducible refine Kd.C_drewN ?_ _) | (with_reducible refine Kd.C_drew ?_))); (case side2 => exact (Kd.R_reads' HO271.out).2.1); (case side3 => repeat (first | exact (Kd.R_reads' HO275.out).2.2 | (with_reducible refine Kd.C_alloc ?_ _) | (with_reducible refine Kd.C_drewN ?_ _) | (with_reducible refine Kd.C_drew ?_))); (case side4 => exact (Kd.R_reads' HO275.out).2.1); rintro e w' ⟨rfl, ⟨nd, rfl⟩⟩; (try first | exact ⟨rfl, _, World.drewN_drewN _ _ _⟩ | exact ⟨rfl, _, Eq.trans (World.drewN_drewN _ _ _) (congrArg (World.drewN _) (Nat.add_assoc _ _ _))⟩)))
               repeat (go_quiet (fail); try go_wp2_with (first | (go_at_call 47; (with_reducible refine (spec_A2Same.calls kj28 _ _ t268 _ _ t272 true _ ?side1 ?side2 ?side3 ?side4 A100.out).mono ?_); (case side1 => repeat (first | exact (Kd.R_reads' HO271.out).2.2 | (with_reducible refine Kd.C_alloc ?_ _) | (with_reducible refine Kd.C_drewN ?_ _) | (with_reducible refine Kd.C_drew ?_))); (case side2 => exact (Kd.R_reads' HO271.out).2.1); (case side3 => repeat (first | exact (Kd.R_reads' HO275.out).2.2 | (with_reducible refine Kd.C_alloc ?_ _) | (with_reducible refine Kd.C_drewN ?_ _) | (with_reducible refine Kd.C_drew ?_))); (case side4 => exact (Kd.R_reads' HO275.out).2.1); rintro e w' ⟨rfl, ⟨nd, rfl⟩⟩; (try first | exact ⟨rfl, _, World.drewN_drewN _ _ _⟩ | exact ⟨rfl, _, Eq.trans (World.drewN_drewN _ _ _) (congrArg (World.drewN _) (Nat.add_assoc _ _ _))⟩))))
               go_meet
               case rel => exact ⟨_, (true), (by first | rfl | (simp; done) | (simp [*]; done)), H', ⟨by have := HK1.out; have := HJ13.out; have := HJ28.out; first | omega | exact Nat.le_refl _⟩, ⟨by (try simp only [hl5_28]); (with_reducible repeat (first | apply Kd.R_alloc | apply Kd.R_drewN | apply Kd.R_drew)); exact Kd.R_mono HO_5.out (fun _ hk => hk.2)⟩, ⟨by (try simp only [hl5_28]); (with_reducible repeat (first | apply Kd.R_alloc | apply Kd.R_drewN | apply Kd.R_drew)); exact Kd.R_mono HO275.out (fun _ hk => hk.1.2)⟩, ⟨by repeat (first | (with_reducible first | exact HB.out | apply below_alloc | apply pw_below_drewN | apply below_drew1) | exact HB.out)⟩⟩
             ·as_aux_lemma =>
              replace c101 := Bool.eq_false_iff.mpr c101
              subst c101
              have H1 : (laws_FnShares.j7 kj28 x5_28 (wrap64 (t232 + (wrap64 (7 * t233)))) x7_1 t272 true) = some r := by rw [if_neg (show ¬ (false = true) by decide)] at H; exact H
              clear H
              have H := H1
              clear H1
              have H' := Aside0.mk H
              clear H
              obtain ⟨Ao107, co107, eo107⟩ := Kd.R_slice HO271.out
              subst eo107
              go_wp2_with (first | (go_at_call 47; (with_reducible refine (spec_A2Same.calls kj28 _ _ t268 _ _ t272 false _ ?side1 ?side2 ?side3 ?side4 A100.out).mono ?_); (case side1 => repeat (first | exact (Kd.R_reads' HO271.out).2.2 | (with_reducible refine Kd.C_alloc ?_ _) | (with_reducible refine Kd.C_drewN ?_ _) | (with_reducible refine Kd.C_drew ?_))); (case side2 => exact (Kd.R_reads' HO271.out).2.1); (case side3 => repeat (first | exact (Kd.R_reads' HO275.out).2.2 | (with_reducible refine Kd.C_alloc ?_ _) | (with_reducible refine Kd.C_drewN ?_ _) | (with_reducible refine Kd.C_drew ?_))); (case side4 => exact (Kd.R_reads' HO275.out).2.1); rintro e w' ⟨rfl, ⟨nd, rfl⟩⟩; (try first | exact ⟨rfl, _, World.drewN_drewN _ _ _⟩ | exact ⟨rfl, _, Eq.trans (World.drewN_drewN _ _ _) (congrArg (World.drewN _) (Nat.add_assoc _ _ _))⟩)))
              repeat (go_quiet (fail); try go_wp2_with (first | (go_at_call 47; (with_reducible refine (spec_A2Same.calls kj28 _ _ t268 _ _ t272 false _ ?side1 ?side2 ?side3 ?side4 A100.out).mono ?_); (case side1 => repeat (first | exact (Kd.R_reads' HO271.out).2.2 | (with_reducible refine Kd.C_alloc ?_ _) | (with_reducible refine Kd.C_drewN ?_ _) | (with_reducible refine Kd.C_drew ?_))); (case side2 => exact (Kd.R_reads' HO271.out).2.1); (case side3 => repeat (first | exact (Kd.R_reads' HO275.out).2.2 | (with_reducible refine Kd.C_alloc ?_ _) | (with_reducible refine Kd.C_drewN ?_ _) | (with_reducible refine Kd.C_drew ?_))); (case side4 => exact (Kd.R_reads' HO275.out).2.1); rintro e w' ⟨rfl, ⟨nd, rfl⟩⟩; (try first | exact ⟨rfl, _, World.drewN_drewN _ _ _⟩ | exact ⟨rfl, _, Eq.trans (World.drewN_drewN _ _ _) (congrArg (World.drewN _) (Nat.add_assoc _ _ _))⟩))))
              go_meet
              case rel => exact ⟨_, (true), (by first | rfl | (simp; done) | (simp [*]; done)), H', ⟨by have := HK1.out; have := HJ13.out; have := HJ28.out; first | omega | exact Nat.le_refl _⟩, ⟨by (try simp only [hl5_28]); (with_reducible repeat (first | apply Kd.R_alloc | apply Kd.R_drewN | apply Kd.R_drew)); exact Kd.R_mono HO_5.out (fun _ hk => hk.2)⟩, ⟨by (try simp only [hl5_28]); (with_reducible repeat (first | apply Kd.R_alloc | apply Kd.R_drewN | apply Kd.R_drew)); exact Kd.R_mono HO275.out (fun _ hk => hk.1.2)⟩, ⟨by repeat (first | (with_reducible first | exact HB.out | apply below_alloc | apply pw_below_drewN | apply below_drew1) | exact HB.out)⟩⟩
            ·rw [if_neg c99] at H
             have c99b0 : (t269 == 0) = false := beq_eq_false_iff_ne.mpr c99
             have c99b1 : (t269 != 0) = true := bne_iff_ne.mpr c99
             have H' := Aside0.mk H
             clear H
             go_wp2
             repeat (go_quiet (fail); try go_wp2)
             go_meet
             case rel => exact ⟨_, (true), (by first | rfl | (simp; done) | (simp [*]; done)), H', ⟨by have := HK1.out; have := HJ13.out; have := HJ28.out; first | omega | exact Nat.le_refl _⟩, ⟨by (try simp only [hl5_28]); (with_reducible repeat (first | apply Kd.R_alloc | apply Kd.R_drewN | apply Kd.R_drew)); exact Kd.R_mono HO_5.out (fun _ hk => hk.2)⟩, ⟨by (try simp only [hl5_28]); (with_reducible repeat (first | apply Kd.R_alloc | apply Kd.R_drewN | apply Kd.R_drew)); exact Kd.R_mono HO275.out (fun _ hk => hk.1.2)⟩, ⟨by repeat (first | (with_reducible first | exact HB.out | apply below_alloc | apply pw_below_drewN | apply below_drew1) | exact HB.out)⟩⟩
           ·rw [if_neg c98] at H
            have c98b0 : (t269 == t273) = false := beq_eq_false_iff_ne.mpr c98
            have c98b1 : (t269 != t273) = true := bne_iff_ne.mpr c98
            (first | rw [c98b0] | (simp only [i64_w, i32_w]; rw [c98b0]) | skip)
            have H' := Aside0.mk H
            clear H
            go_wp2
            repeat (go_quiet (fail); try go_wp2)
            go_meet
            case rel => exact ⟨_, (true), (by first | rfl | (simp; done) | (simp [*]; done)), H', ⟨by have := HK1.out; have := HJ13.out; have := HJ28.out; first | omega | exact Nat.le_refl _⟩, ⟨by (try simp only [hl5_28]); (with_reducible repeat (first | apply Kd.R_alloc | apply Kd.R_drewN | apply Kd.R_drew)); exact Kd.R_mono HO_5.out (fun _ hk => hk.2)⟩, ⟨by (try simp only [hl5_28]); (with_reducible repeat (first | apply Kd.R_alloc | apply Kd.R_drewN | apply Kd.R_drew)); exact Kd.R_mono HO275.out (fun _ hk => hk.1.2)⟩, ⟨by repeat (first | (with_reducible first | exact HB.out | apply below_alloc | apply pw_below_drewN | apply below_drew1) | exact HB.out)⟩⟩
          case rest => as_aux_lemma =>
           clear HC93
           try clear c1
           try clear c2
           try clear p2
           try clear q2
           try clear hx2
           try clear c3
           try clear c4
           try clear c5
           try clear c6
           try clear p6
           try clear q6
           try clear hx6
           try clear hf6
           try clear c9
           try clear c9b0
           try clear c10
           try clear c10b0
           try clear c14
           try clear c18
           try clear c18b0
           try clear c18b1
           try clear c20
           try clear c21
           try clear c21b0
           try clear c21b1
           try clear p23
           try clear q23
           try clear hx23
           try clear p24
           try clear q24
           try clear hx24
           try clear p25
           try clear q25
           try clear hx25
           try clear p26
           try clear q26
           try clear hx26
           try clear c28
           try clear c30
           try clear c30b0
           try clear c30b1
           try clear c35
           try clear c35b0
           try clear c35b1
           try clear c36
           try clear c37
           try clear c38
           try clear c38b0
           try clear c40
           try clear c40b0
           try clear c41
           try clear c41b0
           try clear c42
           try clear c42b0
           try clear c43
           try clear c43b0
           try clear c44
           try clear c44b0
           try clear c45
           try clear c45b0
           try clear c45b1
           try clear c46
           try clear c46b0
           try clear c46b1
           try clear c47
           try clear c47b0
           try clear c48
           try clear c49
           try clear c49b0
           try clear c50
           try clear c50b0
           try clear c51
           try clear c51b0
           try clear c52
           try clear c52b0
           try clear c53
           try clear c53b0
           try clear c54
           try clear c54b0
           try clear c55
           try clear c55b0
           try clear c56
           try clear c56b0
           try clear c57
           try clear c57b0
           try clear c58
           try clear c58b0
           try clear c59
           try clear c59b0
           try clear c59b1
           try clear c60
           try clear c60b0
           try clear c60b1
           try clear c61
           try clear c63
           try clear c63b0
           try clear c64
           try clear c64b0
           try clear p64
           try clear p65
           try clear q65
           try clear hx65
           try clear hf65
           try clear c67
           try clear c67b0
           try clear c67b1
           try clear c68
           try clear c98
           try clear c98b0
           try clear c98b1
           try clear c99
           try clear c99b0
           try clear c99b1
           try clear c101
           try clear c102
           try clear c102b0
           try clear c102b1
           try clear c103
           try clear hx234_0
           try clear hx246_0
           try clear hx247_0
           try clear hx248_0
           try clear hx249_0
           try clear hx250_0
           try clear hx251_0
           try clear hx252_0
           try clear hx253_0
           try clear hx254_0
           try clear hx255_0
           try clear hx256_0
           try clear hx264_0
           try clear hx65_0
           try clear p2
           try clear p23
           try clear p234
           try clear p24
           try clear p246
           try clear p247
           try clear p248
           try clear p249
           try clear p25
           try clear p250
           try clear p251
           try clear p252
           try clear p253
           try clear p254
           try clear p255
           try clear p256
           try clear p26
           try clear p264
           try clear p6
           try clear p64
           try clear p65
           try clear q2
           try clear q23
           try clear q234
           try clear q24
           try clear q246
           try clear q247
           try clear q248
           try clear q249
           try clear q25
           try clear q250
           try clear q251
           try clear q252
           try clear q253
           try clear q254
           try clear q255
           try clear q256
           try clear q26
           try clear q264
           try clear q6
           try clear q65
           obtain ⟨kq, x271_92, rfl, HA, HJ92, HO_5, HO_23, HB⟩ := hcut
           cases kq with
           | zero => exact absurd HA.out (by simp [laws_FnShares.j7])
           | succ kj92 =>
            have H := HA.out
            clear HA
            simp only [laws_FnShares.j7] at H
            by_cases c108 : x271_92 = true
            ·as_aux_lemma =>
             subst c108
             have H1 : (some false) = some r := by rw [if_pos rfl] at H; exact H
             clear H
             have H := H1
             clear H1
             obtain rfl := Option.some.inj H
             go_wp2
             repeat (go_quiet (fail); try go_wp2)
             go_ret
             exact ⟨by first | rfl | (simp [errW_none, errW_some] <;> rfl) | (simp [*, errW_none, errW_some] <;> rfl), by repeat (first | (with_reducible first | exact HB.out | apply below_alloc | apply pw_below_drewN | apply below_drew1) | exact HB.out)⟩
            ·as_aux_lemma =>
             replace c108 := Bool.eq_false_iff.mpr c108
             subst c108
             have H1 : (laws_FnShares.l3 kj92 x5_28 (wrap64 (t232 + (wrap64 (7 * t233)))) x7_1 t272 0 0) = some r := by rw [if_neg (show ¬ (false = true) by decide)] at H; exact H
             clear H
             have H := H1
             clear H1
             have H' := Aside0.mk H
             clear H
             go_wp2
             repeat (go_quiet (fail); try go_wp2)
             go_loopg [27, 28] kj92 (fun kq v27 v28 w' => ∃ (x27_5 : Int) (x28_5 : Int), v27 = .int .i64 x27_5 ∧ v28 = .int .i64 x28_5 ∧ Aside0 (laws_FnShares.l3 kq x5_28 (wrap64 (t232 + (wrap64 (7 * t233)))) x7_1 t272 x27_5 x28_5 = some r) ∧ Aside0 (kq ≤ kj92) ∧ Aside0 (Kd.R (Kd.int .i64) 2 w' w.heap.size (fun k_ => some k_ ≠ ((.slice Ao96 t272.length co96) : Value).ownBlock) (.slice Ao15 x5_28.length co15) x5_28) ∧ Aside0 (Kd.R (Kd.int .i64) 2 w' w.heap.size (fun k_ => some k_ ≠ ((.slice Ao15 x5_28.length co15) : Value).ownBlock) (.slice Ao96 t272.length co96) t272) ∧ Aside0 (Below w.heap.size w w'))
             case atStart => exact ⟨(0), (0), (by first | rfl | (simp; done) | (simp [*]; done)), (by first | rfl | (simp; done) | (simp [*]; done)), H', ⟨Nat.le_refl _⟩, ⟨by (try simp only [hl5_28]); (with_reducible repeat (first | apply Kd.R_alloc | apply Kd.R_drewN | apply Kd.R_drew)); exact HO_5.out⟩, ⟨by (try simp only [hl5_28]); (with_reducible repeat (first | apply Kd.R_alloc | apply Kd.R_drewN | apply Kd.R_drew)); exact HO_23.out⟩, ⟨by repeat (first | (with_reducible first | exact HB.out | apply below_alloc | apply pw_below_drewN | apply below_drew1) | exact HB.out)⟩⟩
             case round => as_aux_lemma =>
              clear H'
              try clear c1
              try clear c2
              try clear p2
              try clear q2
              try clear hx2
              try clear c3
              try clear c4
              try clear c5
              try clear c6
              try clear p6
              try clear q6
              try clear hx6
              try clear hf6
              try clear c9
              try clear c9b0
              try clear c10
              try clear c10b0
              try clear c14
              try clear c18
              try clear c18b0
              try clear c18b1
              try clear c20
              try clear c21
              try clear c21b0
              try clear c21b1
              try clear p23
              try clear q23
              try clear hx23
              try clear p24
              try clear q24
              try clear hx24
              try clear p25
              try clear q25
              try clear hx25
              try clear p26
              try clear q26
              try clear hx26
              try clear c28
              try clear c30
              try clear c30b0
              try clear c30b1
              try clear c35
              try clear c35b0
              try clear c35b1
              try clear c36
              try clear c37
              try clear c38
              try clear c38b0
              try clear c40
              try clear c40b0
              try clear c41
              try clear c41b0
              try clear c42
              try clear c42b0
              try clear c43
              try clear c43b0
              try clear c44
              try clear c44b0
              try clear c45
              try clear c45b0
              try clear c45b1
              try clear c46
              try clear c46b0
              try clear c46b1
              try clear c47
              try clear c47b0
              try clear c48
              try clear c49
              try clear c49b0
              try clear c50
              try clear c50b0
              try clear c51
              try clear c51b0
              try clear c52
              try clear c52b0
              try clear c53
              try clear c53b0
              try clear c54
              try clear c54b0
              try clear c55
              try clear c55b0
              try clear c56
              try clear c56b0
              try clear c57
              try clear c57b0
              try clear c58
              try clear c58b0
              try clear c59
              try clear c59b0
              try clear c59b1
              try clear c60
              try clear c60b0
              try clear c60b1
              try clear c61
              try clear c63
              try clear c63b0
              try clear c64
              try clear c64b0
              try clear p64
              try clear p65
              try clear q65
              try clear hx65
              try clear hf65
              try clear c67
              try clear c67b0
              try clear c67b1
              try clear c68
              try clear c98
              try clear c98b0
              try clear c98b1
              try clear c99
              try clear c99b0
              try clear c99b1
              try clear c101
              try clear c102
              try clear c102b0
              try clear c102b1
              try clear c103
              try clear c108
              try clear hx234_0
              try clear hx246_0
              try clear hx247_0
              try clear hx248_0
              try clear hx249_0
              try clear hx250_0
              try clear hx251_0
              try clear hx252_0
              try clear hx253_0
              try clear hx254_0
              try clear hx255_0
              try clear hx256_0
              try clear hx264_0
              try clear hx65_0
              try clear p2
              try clear p23
              try clear p234
              try clear p24
              try clear p246
              try clear p247
              try clear p248
              try clear p249
              try clear p25
              try clear p250
              try clear p251
              try clear p252
              try clear p253
              try clear p254
              try clear p255
              try clear p256
              try clear p26
              try clear p264
              try clear p6
              try clear p64
              try clear p65
              try clear q2
              try clear q23
              try clear q234
              try clear q24
              try clear q246
              try clear q247
              try clear q248
              try clear q249
              try clear q25
              try clear q250
              try clear q251
              try clear q252
              try clear q253
              try clear q254
              try clear q255
              try clear q256
              try clear q26
              try clear q264
              try clear q6
              try clear q65
              obtain ⟨x27_5, x28_5, rfl, rfl, HA, HK5, HO_5, HO_23, HB⟩ := hrel
              cases gk with
              | zero => exact absurd HA.out (by simp [laws_FnShares.l3])
              | succ k5 =>
               have H := HA.out
               clear HA
               simp only [laws_FnShares.l3] at H
               by_cases c109 : x28_5 < (t272.length : Int)
               ·rw [if_pos c109] at H
                have c109b0 : decide (x28_5 < (t272.length : Int)) = true := decide_eq_true c109
                clear c109
                have HC110 := Aside0.mk H
                clear H
                go_upto_region 47 with (fail)
                repeat (go_quiet (fail); go_upto_region 47 with (fail))
                go_cut [293] (fun v293 wc => ∃ (kq : Nat) (x293_109 : Bool), v293 = .bool x293_109 ∧ Aside0 (laws_FnShares.j9 kq x5_28 (wrap64 (t232 + (wrap64 (7 * t233)))) x7_1 t272 x27_5 x28_5 x293_109 = some r) ∧ Aside0 (kq ≤ k5) ∧ Aside0 (Kd.R (Kd.int .i64) 2 wc w.heap.size (fun k_ => some k_ ≠ ((.slice Ao96 t272.length co96) : Value).ownBlock) (.slice Ao15 x5_28.length co15) x5_28) ∧ Aside0 (Kd.R (Kd.int .i64) 2 wc w.heap.size (fun k_ => some k_ ≠ ((.slice Ao15 x5_28.length co15) : Value).ownBlock) (.slice Ao96 t272.length co96) t272) ∧ Aside0 (Below w.heap.size w wc))
                case first => as_aux_lemma =>
                 have H := HC110.out
                 clear HC110
                 by_cases c111 : 0 ≤ x28_5
                 ·rw [if_pos c111] at H
                  have c111b0 : decide (0 ≤ x28_5) = true := decide_eq_true c111
                  clear c111
                  (first | rw [c111b0] | (simp only [i64_w, i32_w]; rw [c111b0]) | skip)
                  by_cases c112 : (rd t272 x28_5) < 0
                  ·rw [if_pos c112] at H
                   have c112b0 : decide ((rd t272 x28_5) < 0) = true := decide_eq_true c112
                   clear c112
                   have H' := Aside0.mk H
                   clear H
                   have p279 : 0 ≤ (x28_5 : Int) := of_decide_eq_true (by first | (with_reducible assumption) | assumption)
                   have q279 : x28_5 < (t272.length : Int) := of_decide_eq_true (by first | (with_reducible assumption) | assumption)
                   obtain ⟨ad279, e279, hx279_0⟩ := Kd.at_int (Kd.R_reads' HO_23.out).2.2 x28_5 p279 q279
                   cases e279
                   replace p279 := eq_true p279
                   replace q279 := eq_true q279
                   go_wp2
                   repeat (go_quiet (fail); try go_wp2)
                   go_meet
                   case rel => exact ⟨_, (true), (by first | rfl | (simp; done) | (simp [*]; done)), H', ⟨by have := HK1.out; have := HJ13.out; have := HJ28.out; have := HJ92.out; have := HK5.out; first | omega | exact Nat.le_refl _⟩, ⟨by (try simp only [hl5_28]); (with_reducible repeat (first | apply Kd.R_alloc | apply Kd.R_drewN | apply Kd.R_drew)); exact HO_5.out⟩, ⟨by (try simp only [hl5_28]); (with_reducible repeat (first | apply Kd.R_alloc | apply Kd.R_drewN | apply Kd.R_drew)); exact HO_23.out⟩, ⟨by repeat (first | (with_reducible first | exact HB.out | apply below_alloc | apply pw_below_drewN | apply below_drew1) | exact HB.out)⟩⟩
                  ·rw [if_neg c112] at H
                   have c112b0 : decide ((rd t272 x28_5) < 0) = false := decide_eq_false c112
                   clear c112
                   by_cases c113 : x28_5 < (x5_28.length : Int)
                   ·rw [if_pos c113] at H
                    have c113b0 : decide (x28_5 < (x5_28.length : Int)) = true := decide_eq_true c113
                    clear c113
                    have H' := Aside0.mk H
                    clear H
                    have p279 : 0 ≤ (x28_5 : Int) := of_decide_eq_true (by first | (with_reducible assumption) | assumption)
                    have q279 : x28_5 < (t272.length : Int) := of_decide_eq_true (by first | (with_reducible assumption) | assumption)
                    obtain ⟨ad279, e279, hx279_0⟩ := Kd.at_int (Kd.R_reads' HO_23.out).2.2 x28_5 p279 q279
                    cases e279
                    replace p279 := eq_true p279
                    replace q279 := eq_true q279
                    have p280 : 0 ≤ (x28_5 : Int) := of_decide_eq_true (by first | (with_reducible assumption) | assumption)
                    have q280 : x28_5 < (t272.length : Int) := of_decide_eq_true (by first | (with_reducible assumption) | assumption)
                    obtain ⟨ad280, e280, hx280_0⟩ := Kd.at_int (Kd.R_reads' HO_23.out).2.2 x28_5 p280 q280
                    obtain rfl : ad279 = ad280 := (by injection e280)
                    replace p280 := eq_true p280
                    replace q280 := eq_true q280
                    have p281 : 0 ≤ (x28_5 : Int) := of_decide_eq_true (by first | (with_reducible assumption) | assumption)
                    have q281 : x28_5 < (x5_28.length : Int) := of_decide_eq_true (by first | (with_reducible assumption) | assumption)
                    obtain ⟨ad281, e281, hx281_0⟩ := Kd.at_int (Kd.R_reads' HO_5.out).2.2 x28_5 p281 q281
                    cases e281
                    replace p281 := eq_true p281
                    replace q281 := eq_true q281
                    go_wp2
                    repeat (go_quiet (fail); try go_wp2)
                    go_meet
                    case rel => exact ⟨_, (decide ((rd t272 x28_5) > (rd x5_28 x28_5))), (by first | rfl | (simp; done) | (simp [*]; done)), H', ⟨by have := HK1.out; have := HJ13.out; have := HJ28.out; have := HJ92.out; have := HK5.out; first | omega | exact Nat.le_refl _⟩, ⟨by (try simp only [hl5_28]); (with_reducible repeat (first | apply Kd.R_alloc | apply Kd.R_drewN | apply Kd.R_drew)); exact HO_5.out⟩, ⟨by (try simp only [hl5_28]); (with_reducible repeat (first | apply Kd.R_alloc | apply Kd.R_drewN | apply Kd.R_drew)); exact HO_23.out⟩, ⟨by repeat (first | (with_reducible first | exact HB.out | apply below_alloc | apply pw_below_drewN | apply below_drew1) | exact HB.out)⟩⟩
                   ·rw [if_neg c113] at H
                    exact absurd H (by simp)
                 ·rw [if_neg c111] at H
                  exact absurd H (by simp)
                case rest => as_aux_lemma =>
                 clear HC110
                 try clear c1
                 try clear c2
                 try clear p2
                 try clear q2
                 try clear hx2
                 try clear c3
                 try clear c4
                 try clear c5
                 try clear c6
                 try clear p6
                 try clear q6
                 try clear hx6
                 try clear hf6
                 try clear c9
                 try clear c9b0
                 try clear c10
                 try clear c10b0
                 try clear c11
                 try clear c14
                 try clear c18
                 try clear c18b0
                 try clear c18b1
                 try clear c20
                 try clear c21
                 try clear c21b0
                 try clear c21b1
                 try clear p23
                 try clear q23
                 try clear hx23
                 try clear p24
                 try clear q24
                 try clear hx24
                 try clear p25
                 try clear q25
                 try clear hx25
                 try clear p26
                 try clear q26
                 try clear hx26
                 try clear p27
                 try clear q27
                 try clear hx27
                 try clear c28
                 try clear p28
                 try clear q28
                 try clear hx28
                 try clear c30
                 try clear c30b0
                 try clear c30b1
                 try clear c35
                 try clear c35b0
                 try clear c35b1
                 try clear c36
                 try clear c37
                 try clear c38
                 try clear c38b0
                 try clear c40
                 try clear c40b0
                 try clear c41
                 try clear c41b0
                 try clear c42
                 try clear c42b0
                 try clear c43
                 try clear c43b0
                 try clear c44
                 try clear c44b0
                 try clear c45
                 try clear c45b0
                 try clear c45b1
                 try clear c46
                 try clear c46b0
                 try clear c46b1
                 try clear c47
                 try clear c47b0
                 try clear c48
                 try clear c49
                 try clear c49b0
                 try clear c50
                 try clear c50b0
                 try clear c51
                 try clear c51b0
                 try clear c52
                 try clear c52b0
                 try clear c53
                 try clear c53b0
                 try clear c54
                 try clear c54b0
                 try clear c55
                 try clear c55b0
                 try clear c56
                 try clear c56b0
                 try clear c57
                 try clear c57b0
                 try clear c58
                 try clear c58b0
                 try clear c59
                 try clear c59b0
                 try clear c59b1
                 try clear c60
                 try clear c60b0
                 try clear c60b1
                 try clear c61
                 try clear c63
                 try clear c63b0
                 try clear c64
                 try clear c64b0
                 try clear p64
                 try clear p65
                 try clear q65
                 try clear hx65
                 try clear hf65
                 try clear c67
                 try clear c67b0
                 try clear c67b1
                 try clear c68
                 try clear c98
                 try clear c98b0
                 try clear c98b1
                 try clear c99
                 try clear c99b0
                 try clear c99b1
                 try clear c101
                 try clear c102
                 try clear c102b0
                 try clear c102b1
                 try clear c103
                 try clear c108
                 try clear c109
                 try clear c109b0
                 try clear c111
                 try clear c111b0
                 try clear c112
                 try clear c112b0
                 try clear c113
                 try clear c113b0
                 try clear hx234_0
                 try clear hx246_0
                 try clear hx247_0
                 try clear hx248_0
                 try clear hx249_0
                 try clear hx250_0
                 try clear hx251_0
                 try clear hx252_0
                 try clear hx253_0
                 try clear hx254_0
                 try clear hx255_0
                 try clear hx256_0
                 try clear hx264_0
                 try clear hx279_0
                 try clear hx280_0
                 try clear hx281_0
                 try clear hx65_0
                 try clear p2
                 try clear p23
                 try clear p234
                 try clear p24
                 try clear p246
                 try clear p247
                 try clear p248
                 try clear p249
                 try clear p25
                 try clear p250
                 try clear p251
                 try clear p252
                 try clear p253
                 try clear p254
                 try clear p255
                 try clear p256
                 try clear p26
                 try clear p264
                 try clear p279
                 try clear p280
                 try clear p281
                 try clear p6
                 try clear p64
                 try clear p65
                 try clear q2
                 try clear q23
                 try clear q234
                 try clear q24
                 try clear q246
                 try clear q247
                 try clear q248
                 try clear q249
                 try clear q25
                 try clear q250
                 try clear q251
                 try clear q252
                 try clear q253
                 try clear q254
                 try clear q255
                 try clear q256
                 try clear q26
                 try clear q264
                 try clear q279
                 try clear q280
                 try clear q281
                 try clear q6
                 try clear q65
                 obtain ⟨kq, x293_109, rfl, HA, HJ109, HO_5, HO_23, HB⟩ := hcut
                 cases kq with
                 | zero => exact absurd HA.out (by simp [laws_FnShares.j9])
                 | succ kj109 =>
                  have H := HA.out
                  clear HA
                  simp only [laws_FnShares.j9] at H
                  by_cases c114 : x293_109 = true
                  ·as_aux_lemma =>
                   subst c114
                   have H1 : (some false) = some r := by rw [if_pos rfl] at H; exact H
                   clear H
                   have H := H1
                   clear H1
                   obtain rfl := Option.some.inj H
                   go_wp2
                   repeat (go_quiet (fail); try go_wp2)
                   go_ret
                   exact ⟨by first | rfl | (simp [errW_none, errW_some] <;> rfl) | (simp [*, errW_none, errW_some] <;> rfl), by repeat (first | (with_reducible first | exact HB.out | apply below_alloc | apply pw_below_drewN | apply below_drew1) | exact HB.out)⟩
                  ·as_aux_lemma =>
                   replace c114 := Bool.eq_false_iff.mpr c114
                   subst c114
                   have H1 : (if 0 ≤ x28_5 then (if x28_5 < (t272.length : Int) then (laws_FnShares.l4 kj109 x5_28 (wrap64 (t232 + (wrap64 (7 * t233)))) x7_1 t272 (wrap64 (x27_5 + (rd t272 x28_5))) x28_5 0) else (none)) else (none)) = some r := by rw [if_neg (show ¬ (false = true) by decide)] at H; exact H
                   clear H
                   have H := H1
                   clear H1
                   by_cases c115 : 0 ≤ x28_5
                   ·rw [if_pos c115] at H
                    have c115b0 : decide (0 ≤ x28_5) = true := decide_eq_true c115
                    clear c115
                    by_cases c116 : x28_5 < (t272.length : Int)
                    ·rw [if_pos c116] at H
                     have c116b0 : decide (x28_5 < (t272.length : Int)) = true := decide_eq_true c116
                     clear c116
                     have H' := Aside0.mk H
                     clear H
                     have p282 : 0 ≤ (x28_5 : Int) := of_decide_eq_true (by first | (with_reducible assumption) | assumption)
                     have q282 : x28_5 < (t272.length : Int) := of_decide_eq_true (by first | (with_reducible assumption) | assumption)
                     obtain ⟨ad282, e282, hx282_0⟩ := Kd.at_int (Kd.R_reads' HO_23.out).2.2 x28_5 p282 q282
                     cases e282
                     replace p282 := eq_true p282
                     replace q282 := eq_true q282
                     go_wp2
                     repeat (go_quiet (fail); try go_wp2)
                     go_loopg [29] kj109 (fun kq v29 w' => ∃ (x29_7 : Int), v29 = .int .i64 x29_7 ∧ Aside0 (laws_FnShares.l4 kq x5_28 (wrap64 (t232 + (wrap64 (7 * t233)))) x7_1 t272 (wrap64 (x27_5 + (rd t272 x28_5))) x28_5 x29_7 = some r) ∧ Aside0 (kq ≤ kj109) ∧ Aside0 (Kd.R (Kd.int .i64) 2 w' w.heap.size (fun k_ => some k_ ≠ ((.slice (some ad282) t272.length co96) : Value).ownBlock) (.slice Ao15 x5_28.length co15) x5_28) ∧ Aside0 (Kd.R (Kd.int .i64) 2 w' w.heap.size (fun k_ => some k_ ≠ ((.slice Ao15 x5_28.length co15) : Value).ownBlock) (.slice (some ad282) t272.length co96) t272) ∧ Aside0 (Below w.heap.size w w'))
                     case atStart => exact ⟨(0), (by first | rfl | (simp; done) | (simp [*]; done)), H', ⟨Nat.le_refl _⟩, ⟨by (try simp only [hl5_28]); (with_reducible repeat (first | apply Kd.R_alloc | apply Kd.R_drewN | apply Kd.R_drew)); exact HO_5.out⟩, ⟨by (try simp only [hl5_28]); (with_reducible repeat (first | apply Kd.R_alloc | apply Kd.R_drewN | apply Kd.R_drew)); exact HO_23.out⟩, ⟨by repeat (first | (with_reducible first | exact HB.out | apply below_alloc | apply pw_below_drewN | apply below_drew1) | exact HB.out)⟩⟩
                     case round => as_aux_lemma =>
                      clear H'
                      try clear c1
                      try clear c2
                      try clear p2
                      try clear q2
                      try clear hx2
                      try clear c3
                      try clear c4
                      try clear c5
                      try clear c6
                      try clear p6
                      try clear q6
                      try clear hx6
                      try clear hf6
                      try clear c9
                      try clear c9b0
                      try clear c10
                      try clear c10b0
                      try clear c11
                      try clear c14
                      try clear c18
                      try clear c18b0
                      try clear c18b1
                      try clear c20
                      try clear c21
                      try clear c21b0
                      try clear c21b1
                      try clear p23
                      try clear q23
                      try clear hx23
                      try clear p24
                      try clear q24
                      try clear hx24
                      try clear p25
                      try clear q25
                      try clear hx25
                      try clear p26
                      try clear q26
                      try clear hx26
                      try clear p27
                      try clear q27
                      try clear hx27
                      try clear c28
                      try clear p28
                      try clear q28
                      try clear hx28
                      try clear c30
                      try clear c30b0
                      try clear c30b1
                      try clear c35
                      try clear c35b0
                      try clear c35b1
                      try clear c36
                      try clear c37
                      try clear c38
                      try clear c38b0
                      try clear c40
                      try clear c40b0
                      try clear c41
                      try clear c41b0
                      try clear c42
                      try clear c42b0
                      try clear c43
                      try clear c43b0
                      try clear c44
                      try clear c44b0
                      try clear c45
                      try clear c45b0
                      try clear c45b1
                      try clear c46
                      try clear c46b0
                      try clear c46b1
                      try clear c47
                      try clear c47b0
                      try clear c48
                      try clear c49
                      try clear c49b0
                      try clear c50
                      try clear c50b0
                      try clear c51
                      try clear c51b0
                      try clear c52
                      try clear c52b0
                      try clear c53
                      try clear c53b0
                      try clear c54
                      try clear c54b0
                      try clear c55
                      try clear c55b0
                      try clear c56
                      try clear c56b0
                      try clear c57
                      try clear c57b0
                      try clear c58
                      try clear c58b0
                      try clear c59
                      try clear c59b0
                      try clear c59b1
                      try clear c60
                      try clear c60b0
                      try clear c60b1
                      try clear c61
                      try clear c63
                      try clear c63b0
                      try clear c64
                      try clear c64b0
                      try clear p64
                      try clear p65
                      try clear q65
                      try clear hx65
                      try clear hf65
                      try clear c67
                      try clear c67b0
                      try clear c67b1
                      try clear c68
                      try clear c98
                      try clear c98b0
                      try clear c98b1
                      try clear c99
                      try clear c99b0
                      try clear c99b1
                      try clear c101
                      try clear c102
                      try clear c102b0
                      try clear c102b1
                      try clear c103
                      try clear c108
                      try clear c109
                      try clear c109b0
                      try clear c111
                      try clear c111b0
                      try clear c112
                      try clear c112b0
                      try clear c113
                      try clear c113b0
                      try clear c114
                      try clear c115
                      try clear c115b0
                      try clear c116
                      try clear c116b0
                      try clear hx234_0
                      try clear hx246_0
                      try clear hx247_0
                      try clear hx248_0
                      try clear hx249_0
                      try clear hx250_0
                      try clear hx251_0
                      try clear hx252_0
                      try clear hx253_0
                      try clear hx254_0
                      try clear hx255_0
                      try clear hx256_0
                      try clear hx264_0
                      try clear hx279_0
                      try clear hx280_0
                      try clear hx281_0
                      try clear hx282_0
                      try clear hx65_0
                      try clear p2
                      try clear p23
                      try clear p234
                      try clear p24
                      try clear p246
                      try clear p247
                      try clear p248
                      try clear p249
                      try clear p25
                      try clear p250
                      try clear p251
                      try clear p252
                      try clear p253
                      try clear p254
                      try clear p255
                      try clear p256
                      try clear p26
                      try clear p264
                      try clear p27
                      try clear p279
                      try clear p28
                      try clear p280
                      try clear p281
                      try clear p282
                      try clear p6
                      try clear p64
                      try clear p65
                      try clear q2
                      try clear q23
                      try clear q234
                      try clear q24
                      try clear q246
                      try clear q247
                      try clear q248
                      try clear q249
                      try clear q25
                      try clear q250
                      try clear q251
                      try clear q252
                      try clear q253
                      try clear q254
                      try clear q255
                      try clear q256
                      try clear q26
                      try clear q264
                      try clear q27
                      try clear q279
                      try clear q28
                      try clear q280
                      try clear q281
                      try clear q282
                      try clear q6
                      try clear q65
                      obtain ⟨x29_7, rfl, HA, HK7, HO_5, HO_23, HB⟩ := hrel
                      cases gk with
                      | zero => exact absurd HA.out (by simp [laws_FnShares.l4])
                      | succ k7 =>
                       have H := HA.out
                       clear HA
                       simp only [laws_FnShares.l4] at H
                       by_cases c117 : x29_7 < (t272.length : Int)
                       ·rw [if_pos c117] at H
                        have c117b0 : decide (x29_7 < (t272.length : Int)) = true := decide_eq_true c117
                        clear c117
                        by_cases c118 : 0 ≤ x29_7
                        ·rw [if_pos c118] at H
                         have c118b0 : decide (0 ≤ x29_7) = true := decide_eq_true c118
                         clear c118
                         by_cases c119 : x29_7 < (x5_28.length : Int)
                         ·rw [if_pos c119] at H
                          have c119b0 : decide (x29_7 < (x5_28.length : Int)) = true := decide_eq_true c119
                          clear c119
                          by_cases c120 : (rd t272 x29_7) < (rd x5_28 x29_7)
                          ·rw [if_pos c120] at H
                           have c120b0 : decide ((rd t272 x29_7) < (rd x5_28 x29_7)) = true := decide_eq_true c120
                           clear c120
                           by_cases c121 : 0 ≤ x28_5
                           ·rw [if_pos c121] at H
                            have c121b0 : decide (0 ≤ x28_5) = true := decide_eq_true c121
                            clear c121
                            by_cases c122 : x28_5 < (t272.length : Int)
                            ·rw [if_pos c122] at H
                             have c122b0 : decide (x28_5 < (t272.length : Int)) = true := decide_eq_true c122
                             clear c122
                             by_cases c123 : (rd t272 x28_5) > (wrap64 ((rd t272 x29_7) + 1))
                             ·rw [if_pos c123] at H
                              have c123b0 : decide ((wrap64 ((rd t272 x29_7) + 1)) < (rd t272 x28_5)) = true := decide_eq_true c123
                              clear c123
                              obtain rfl := Option.some.inj H
                              have p283 : 0 ≤ (x29_7 : Int) := of_decide_eq_true (by first | (with_reducible assumption) | assumption)
                              have q283 : x29_7 < (t272.length : Int) := of_decide_eq_true (by first | (with_reducible assumption) | assumption)
                              obtain ⟨ad283, e283, hx283_0⟩ := Kd.at_int (Kd.R_reads' HO_23.out).2.2 x29_7 p283 q283
                              obtain rfl : ad282 = ad283 := (by injection e283)
                              replace p283 := eq_true p283
                              replace q283 := eq_true q283
                              have p284 : 0 ≤ (x29_7 : Int) := of_decide_eq_true (by first | (with_reducible assumption) | assumption)
                              have q284 : x29_7 < (x5_28.length : Int) := of_decide_eq_true (by first | (with_reducible assumption) | assumption)
                              obtain ⟨ad284, e284, hx284_0⟩ := Kd.at_int (Kd.R_reads' HO_5.out).2.2 x29_7 p284 q284
                              cases e284
                              replace p284 := eq_true p284
                              replace q284 := eq_true q284
                              have p285 : 0 ≤ (x28_5 : Int) := of_decide_eq_true (by first | (with_reducible assumption) | assumption)
                              have q285 : x28_5 < (t272.length : Int) := of_decide_eq_true (by first | (with_reducible assumption) | assumption)
                              obtain ⟨ad285, e285, hx285_0⟩ := Kd.at_int (Kd.R_reads' HO_23.out).2.2 x28_5 p285 q285
                              obtain rfl : ad282 = ad285 := (by injection e285)
                              replace p285 := eq_true p285
                              replace q285 := eq_true q285
                              have p286 : 0 ≤ (x29_7 : Int) := of_decide_eq_true (by first | (with_reducible assumption) | assumption)
                              have q286 : x29_7 < (t272.length : Int) := of_decide_eq_true (by first | (with_reducible assumption) | assumption)
                              obtain ⟨ad286, e286, hx286_0⟩ := Kd.at_int (Kd.R_reads' HO_23.out).2.2 x29_7 p286 q286
                              obtain rfl : ad282 = ad286 := (by injection e286)
                              replace p286 := eq_true p286
                              replace q286 := eq_true q286
                              go_wp2
                              repeat (go_quiet (fail); try go_wp2)
                              go_ret
                              exact ⟨by first | rfl | (simp [errW_none, errW_some] <;> rfl) | (simp [*, errW_none, errW_some] <;> rfl), by repeat (first | (with_reducible first | exact HB.out | apply below_alloc | apply pw_below_drewN | apply below_drew1) | exact HB.out)⟩
                             ·rw [if_neg c123] at H
                              have c123b0 : decide ((wrap64 ((rd t272 x29_7) + 1)) < (rd t272 x28_5)) = false := decide_eq_false c123
                              clear c123
                              have H' := Aside0.mk H
                              clear H
                              have p283 : 0 ≤ (x29_7 : Int) := of_decide_eq_true (by first | (with_reducible assumption) | assumption)
                              have q283 : x29_7 < (t272.length : Int) := of_decide_eq_true (by first | (with_reducible assumption) | assumption)
                              obtain ⟨ad283, e283, hx283_0⟩ := Kd.at_int (Kd.R_reads' HO_23.out).2.2 x29_7 p283 q283
                              obtain rfl : ad282 = ad283 := (by injection e283)
                              replace p283 := eq_true p283
                              replace q283 := eq_true q283
                              have p284 : 0 ≤ (x29_7 : Int) := of_decide_eq_true (by first | (with_reducible assumption) | assumption)
                              have q284 : x29_7 < (x5_28.length : Int) := of_decide_eq_true (by first | (with_reducible assumption) | assumption)
                              obtain ⟨ad284, e284, hx284_0⟩ := Kd.at_int (Kd.R_reads' HO_5.out).2.2 x29_7 p284 q284
                              cases e284
                              replace p284 := eq_true p284
                              replace q284 := eq_true q284
                              have p285 : 0 ≤ (x28_5 : Int) := of_decide_eq_true (by first | (with_reducible assumption) | assumption)
                              have q285 : x28_5 < (t272.length : Int) := of_decide_eq_true (by first | (with_reducible assumption) | assumption)
                              obtain ⟨ad285, e285, hx285_0⟩ := Kd.at_int (Kd.R_reads' HO_23.out).2.2 x28_5 p285 q285
                              obtain rfl : ad282 = ad285 := (by injection e285)
                              replace p285 := eq_true p285
                              replace q285 := eq_true q285
                              have p286 : 0 ≤ (x29_7 : Int) := of_decide_eq_true (by first | (with_reducible assumption) | assumption)
                              have q286 : x29_7 < (t272.length : Int) := of_decide_eq_true (by first | (with_reducible assumption) | assumption)
                              obtain ⟨ad286, e286, hx286_0⟩ := Kd.at_int (Kd.R_reads' HO_23.out).2.2 x29_7 p286 q286
                              obtain rfl : ad282 = ad286 := (by injection e286)
                              replace p286 := eq_true p286
                              replace q286 := eq_true q286
                              go_wp2
                              repeat (go_quiet (fail); try go_wp2)
                              go_roundg k7
                              case measure => have := HK1.out; have := HJ13.out; have := HJ28.out; have := HJ92.out; have := HK5.out; have := HJ109.out; have := HK7.out; omega
                              case rel => exact ⟨(wrap64 (x29_7 + 1)), (by first | rfl | (simp; done) | (simp [*]; done)), H', ⟨by have := HK1.out; have := HJ13.out; have := HJ28.out; have := HJ92.out; have := HK5.out; have := HJ109.out; have := HK7.out; omega⟩, ⟨by (try simp only [hl5_28]); (with_reducible repeat (first | apply Kd.R_alloc | apply Kd.R_drewN | apply Kd.R_drew)); exact HO_5.out⟩, ⟨by (try simp only [hl5_28]); (with_reducible repeat (first | apply Kd.R_alloc | apply Kd.R_drewN | apply Kd.R_drew)); exact HO_23.out⟩, ⟨by repeat (first | (with_reducible first | exact HB.out | apply below_alloc | apply pw_below_drewN | apply below_drew1) | exact HB.out)⟩⟩
                            ·rw [if_neg c122] at H
                             exact absurd H (by simp)
                           ·rw [if_neg c121] at H
                            exact absurd H (by simp)
                          ·rw [if_neg c120] at H
                           have c120b0 : decide ((rd t272 x29_7) < (rd x5_28 x29_7)) = false := decide_eq_false c120
                           clear c120
                           have H' := Aside0.mk H
                           clear H
                           have p283 : 0 ≤ (x29_7 : Int) := of_decide_eq_true (by first | (with_reducible assumption) | assumption)
                           have q283 : x29_7 < (t272.length : Int) := of_decide_eq_true (by first | (with_reducible assumption) | assumption)
                           obtain ⟨ad283, e283, hx283_0⟩ := Kd.at_int (Kd.R_reads' HO_23.out).2.2 x29_7 p283 q283
                           obtain rfl : ad282 = ad283 := (by injection e283)
                           replace p283 := eq_true p283
                           replace q283 := eq_true q283
                           have p284 : 0 ≤ (x29_7 : Int) := of_decide_eq_true (by first | (with_reducible assumption) | assumption)
                           have q284 : x29_7 < (x5_28.length : Int) := of_decide_eq_true (by first | (with_reducible assumption) | assumption)
                           obtain ⟨ad284, e284, hx284_0⟩ := Kd.at_int (Kd.R_reads' HO_5.out).2.2 x29_7 p284 q284
                           cases e284
                           replace p284 := eq_true p284
                           replace q284 := eq_true q284
                           go_wp2
                           repeat (go_quiet (fail); try go_wp2)
                           go_roundg k7
                           case measure => have := HK1.out; have := HJ13.out; have := HJ28.out; have := HJ92.out; have := HK5.out; have := HJ109.out; have := HK7.out; omega
                           case rel => exact ⟨(wrap64 (x29_7 + 1)), (by first | rfl | (simp; done) | (simp [*]; done)), H', ⟨by have := HK1.out; have := HJ13.out; have := HJ28.out; have := HJ92.out; have := HK5.out; have := HJ109.out; have := HK7.out; omega⟩, ⟨by (try simp only [hl5_28]); (with_reducible repeat (first | apply Kd.R_alloc | apply Kd.R_drewN | apply Kd.R_drew)); exact HO_5.out⟩, ⟨by (try simp only [hl5_28]); (with_reducible repeat (first | apply Kd.R_alloc | apply Kd.R_drewN | apply Kd.R_drew)); exact HO_23.out⟩, ⟨by repeat (first | (with_reducible first | exact HB.out | apply below_alloc | apply pw_below_drewN | apply below_drew1) | exact HB.out)⟩⟩
                         ·rw [if_neg c119] at H
                          exact absurd H (by simp)
                        ·rw [if_neg c118] at H
                         exact absurd H (by simp)
                       ·rw [if_neg c117] at H
                        have c117b0 : decide (x29_7 < (t272.length : Int)) = false := decide_eq_false c117
                        clear c117
                        have H' := Aside0.mk H
                        clear H
                        go_wp2
                        repeat (go_quiet (fail); try go_wp2)
                        go_roundg k7
                        case measure => have := HK1.out; have := HJ13.out; have := HJ28.out; have := HJ92.out; have := HK5.out; have := HJ109.out; have := HK7.out; omega
                        case rel => exact ⟨((wrap64 (x27_5 + (rd t272 x28_5)))), (wrap64 (x28_5 + 1)), (by first | rfl | (simp; done) | (simp [*]; done)), (by first | rfl | (simp; done) | (simp [*]; done)), H', ⟨by have := HK1.out; have := HJ13.out; have := HJ28.out; have := HJ92.out; have := HK5.out; have := HJ109.out; have := HK7.out; omega⟩, ⟨by (try simp only [hl5_28]); (with_reducible repeat (first | apply Kd.R_alloc | apply Kd.R_drewN | apply Kd.R_drew)); exact HO_5.out⟩, ⟨by (try simp only [hl5_28]); (with_reducible repeat (first | apply Kd.R_alloc | apply Kd.R_drewN | apply Kd.R_drew)); exact HO_23.out⟩, ⟨by repeat (first | (with_reducible first | exact HB.out | apply below_alloc | apply pw_below_drewN | apply below_drew1) | exact HB.out)⟩⟩
                    ·rw [if_neg c116] at H
                     exact absurd H (by simp)
                   ·rw [if_neg c115] at H
                    exact absurd H (by simp)
               ·rw [if_neg c109] at H
                have c109b0 : decide (x28_5 < (t272.length : Int)) = false := decide_eq_false c109
                clear c109
                obtain ⟨ji124, hji124⟩ : ∃ j_ : Int, (mn (wrap64 (t232 + (wrap64 (7 * t233)))) x7_1) = j_ := ⟨_, rfl⟩
                replace H : (if x27_5 = (ji124) then (if (t272.length : Int) = 0 then (some true) else ((some (([] : List Int) : List Int)).bind fun y287 => (if y287.length + t272.length < 17592186044416 then ((some (y287 ++ t272 : List Int)).bind fun y290 => (if 0 < (y290.length : Int) then ((impl_CheckAwards.f k5 x5_28 (wrap64 (t232 + (wrap64 (7 * t233)))) (y290.set (0 : Int).toNat (wrap64 ((rd y290 0) + 1)))).bind fun bt295 => (if bt295.2 = 0 then (some (!bt295.1)) else (some false))) else (none))) else (none)))) else (some false)) = some r := by first | (rw [hji124] at H; exact H) | (simp only [hji124] at H ⊢; exact H)
                have hji124_ : (if x7_1 < (wrap64 (t232 + (wrap64 (7 * t233)))) then x7_1 else (wrap64 (t232 + (wrap64 (7 * t233))))) = ji124 := hji124
                by_cases c125 : x27_5 = (ji124)
                ·rw [if_pos c125] at H
                 have c125b0 : (x27_5 == (ji124)) = true := beq_iff_eq.mpr c125
                 have c125b1 : (x27_5 != (ji124)) = false := bne_eq_false_iff_eq.mpr c125
                 clear c125
                 by_cases c126 : (t272.length : Int) = 0
                 ·rw [if_pos c126] at H
                  have c126b0 : ((t272.length : Int) == 0) = true := beq_iff_eq.mpr c126
                  have c126b1 : ((t272.length : Int) != 0) = false := bne_eq_false_iff_eq.mpr c126
                  clear c126
                  obtain rfl := Option.some.inj H
                  go_wp2
                  repeat (go_quiet (fail); try go_wp2)
                  go_ret
                  exact ⟨by first | rfl | (simp [errW_none, errW_some] <;> rfl) | (simp only [← hji124]; first | rfl | (simp [errW_none, errW_some] <;> rfl)) | (simp [*, errW_none, errW_some] <;> rfl), by repeat (first | (with_reducible first | exact HB.out | apply below_alloc | apply pw_below_drewN | apply below_drew1) | exact HB.out)⟩
                 ·rw [if_neg c126] at H
                  have c126b0 : ((t272.length : Int) == 0) = false := beq_eq_false_iff_ne.mpr c126
                  have c126b1 : ((t272.length : Int) != 0) = true := bne_iff_ne.mpr c126
                  have c126b2 : ¬ (t272 = []) := fun h_ => c126 (by rw [h_]; rfl)
                  obtain ⟨y287, hy287⟩ : ∃ y_ : List Int, y_ = (([] : List Int)) := ⟨_, rfl⟩
                  replace H : (if y287.length + t272.length < 17592186044416 then ((some (y287 ++ t272 : List Int)).bind fun y290 => (if 0 < (y290.length : Int) then ((impl_CheckAwards.f k5 x5_28 (wrap64 (t232 + (wrap64 (7 * t233)))) (y290.set (0 : Int).toNat (wrap64 ((rd y290 0) + 1)))).bind fun bt295 => (if bt295.2 = 0 then (some (!bt295.1)) else (some false))) else (none))) else (none)) = some r := by first | (rw [hy287]; with_reducible exact H) | (have H2_ := (Option.bind_some _ _).symm.trans H; rw [hy287]; with_reducible exact H2_) | (have H2_ := (Option.bind_some _ _).symm.trans H; with_reducible exact H2_) | with_reducible exact H | (rw [hy287]; exact H) | exact H
                  have Ny287 := Aside0.mk hy287
                  clear hy287
                  by_cases c127 : y287.length + t272.length < 17592186044416
                  ·rw [if_pos c127] at H
                   have LMc127 := Aside0.mk c127
                   clear c127
                   obtain ⟨y290, hy290⟩ : ∃ y_ : List Int, y_ = (y287 ++ t272) := ⟨_, rfl⟩
                   replace H : (if 0 < (y290.length : Int) then ((impl_CheckAwards.f k5 x5_28 (wrap64 (t232 + (wrap64 (7 * t233)))) (y290.set (0 : Int).toNat (wrap64 ((rd y290 0) + 1)))).bind fun bt295 => (if bt295.2 = 0 then (some (!bt295.1)) else (some false))) else (none)) = some r := by first | (rw [hy290]; with_reducible exact H) | (have H2_ := (Option.bind_some _ _).symm.trans H; rw [hy290]; with_reducible exact H2_) | (have H2_ := (Option.bind_some _ _).symm.trans H; with_reducible exact H2_) | with_reducible exact H | (rw [hy290]; exact H) | exact H
                   have Ny290 := Aside0.mk hy290
                   clear hy290
                   by_cases c128 : 0 < (y290.length : Int)
                   ·rw [if_pos c128] at H
                    have c128b0 : decide (0 < (y290.length : Int)) = true := decide_eq_true c128
                    have c128b1 : decide (0 < y290.length) = true := decide_eq_true (by omega)
                    clear c128
                    obtain ⟨y294, hy294⟩ : ∃ y_ : List Int, y_ = (y290.set (0 : Int).toNat (wrap64 ((rd y290 0) + 1))) := ⟨_, rfl⟩
                    replace H : ((impl_CheckAwards.f k5 x5_28 (wrap64 (t232 + (wrap64 (7 * t233)))) y294).bind fun bt295 => (if bt295.2 = 0 then (some (!bt295.1)) else (some false))) = some r := by first | (rw [hy294]; with_reducible exact H) | (have H2_ := (Option.bind_some _ _).symm.trans H; rw [hy294]; with_reducible exact H2_) | (have H2_ := (Option.bind_some _ _).symm.trans H; with_reducible exact H2_) | with_reducible exact H | (rw [hy294]; exact H) | exact H
                    have Ny294 := Aside0.mk hy294
                    clear hy294
                    replace H := Option.bind_eq_some_iff.mp H
                    obtain ⟨⟨t295, t296⟩, A1300, H⟩ := H
                    replace H : (if t296 = 0 then (some (!t295)) else (some false)) = some r := H
                    have A130 := Aside0.mk A1300
                    clear A1300
                    by_cases c131 : t296 = 0
                    ·rw [if_pos c131] at H
                     have c131b0 : (t296 == 0) = true := beq_iff_eq.mpr c131
                     have c131b1 : (t296 != 0) = false := bne_eq_false_iff_eq.mpr c131
                     clear c131
                     obtain rfl := Option.some.inj H
                     go_wp2_with (first | ((with_reducible refine gate_dst (N := 335) rfl ?_); (try (refine gate_guard (by rfl) ?_; dsimp only)); refine Kd.R_lit (Kd.int .i64) _ 2 ?hg (N := 335) ?hd (xs := ([] : List Int)) (inner := []) (ok := fun _ => True) (okp := fun _ => True) ?hr ?hp (fun _ hk => hk) trivial (Below.refl _ _) (Nat.le_refl _) (by simp) ?_; (case hd => rfl); (case hg => rfl); (case hr => first | (go_simp; done) | (go_simp; rfl)); (case hp => exact (Reps.none _ _)); intro v288 w132 ho133 hb hg_ hnew_; clear hg_ hnew_; (first | rw [← Ny287.out] at ho133 | (simp only [Int.reduceToNat] at ho133; rw [← Ny287.out] at ho133)); have n0_ := Aside0.mk (Kd.R_elder' (by (with_reducible repeat (first | apply Kd.R_alloc | apply Kd.R_drewN | apply Kd.R_drew)); exact HO_5.out) (Kd.R_base ho133) hb); have n1_ := Aside0.mk (Kd.R_elder' (by (with_reducible repeat (first | apply Kd.R_alloc | apply Kd.R_drewN | apply Kd.R_drew)); exact HO_23.out) (Kd.R_base ho133) hb); have n2_ := Aside0.mk (Kd.R_lower (Kd.R_new' (Kd.R_new' ho133 (Kd.R_lt (by (with_reducible repeat (first | apply Kd.R_alloc | apply Kd.R_drewN | apply Kd.R_drew)); exact HO_5.out))) (Kd.R_lt (by (with_reducible repeat (first | apply Kd.R_alloc | apply Kd.R_drewN | apply Kd.R_drew)); exact HO_23.out))) (below_size (by repeat (first | (with_reducible first | exact HB.out | apply below_alloc | apply pw_below_drewN | apply below_drew1) | exact HB.out)))); have n3_ := Aside0.mk (below_step (by repeat (first | (with_reducible first | exact HB.out | apply below_alloc | apply pw_below_drewN | apply below_drew1) | exact HB.out)) hb); clear HO_5; clear HO_23; clear HB; have HO_5 := n0_; have HO_23 := n1_; have HO289 := n2_; have HB := n3_; clear n0_ n1_ n2_ n3_; clear hb ho133) | ((with_reducible refine gate_builtin (b := .append) (xs := #[.tmp 335, .tmp 336]) rfl ?_); (try (refine gate_guard (by rfl) ?_; dsimp only)); at_builtin; refine Kd.R_append_rows (Kd.int .i64) (w0 := w) w.heap.size rfl (.tmp 335) (.tmp 336) 38 2 (.int .i64 0) 8 rfl Try.underlying38 info2 rfl (by decide) (by omega) v288 y287 t272 _ _ _ (fun k_ => some k_ ≠ (.slice Ao15 x5_28.length co15 : Value).ownBlock ∧ some k_ ≠ (.slice Ao96 t272.length co96 : Value).ownBlock) (fun _ => False) rfl rfl ?aO ?aR (fun _ _ h => h) (fun _ h => h.elim) ?aF ?aB ?aS ?aL ?_; (case aR => repeat (first | exact (Kd.R_reads' HO_23.out).2.2 | (with_reducible refine Kd.C_alloc ?_ _) | (with_reducible refine Kd.C_drewN ?_ _) | (with_reducible refine Kd.C_drew ?_))); (case aB => exact (by repeat (first | (with_reducible first | exact HB.out | apply below_alloc | apply pw_below_drewN | apply below_drew1) | exact HB.out))); (case aF => exact (fun k_ hk => ⟨Kd.fresh' (Kd.R_lt (by (with_reducible repeat (first | apply Kd.R_alloc | apply Kd.R_drewN | apply Kd.R_drew)); exact HO_5.out)) k_ hk, Kd.fresh' (Kd.R_lt (by (with_reducible repeat (first | apply Kd.R_alloc | apply Kd.R_drewN | apply Kd.R_drew)); exact HO_23.out)) k_ hk⟩)); (case aO => exact (by (with_reducible repeat (first | apply Kd.R_alloc | apply Kd.R_drewN | apply Kd.R_drew)); exact Kd.R_mono HO289.out (fun _ hk => ⟨hk.1.2, hk.2⟩))); (case aS => exact (below_size (by repeat (first | (with_reducible first | exact HB.out | apply below_alloc | apply pw_below_drewN | apply below_drew1) | exact HB.out)))); (case aL => have := LMc127.out; omega); intro v291 w134 ho hb hg hat; rw [← Ny290.out] at ho; have n0_ := Aside0.mk (Kd.R_after (ok := (fun k_ => some k_ ≠ (.slice Ao96 t272.length co96 : Value).ownBlock)) (by (with_reducible repeat (first | apply Kd.R_alloc | apply Kd.R_drewN | apply Kd.R_drew)); exact HO_5.out) hg hat); have n1_ := Aside0.mk (Kd.R_after (ok := (fun k_ => some k_ ≠ (.slice Ao15 x5_28.length co15 : Value).ownBlock)) (by (with_reducible repeat (first | apply Kd.R_alloc | apply Kd.R_drewN | apply Kd.R_drew)); exact HO_23.out) hg hat); have n2_ := Aside0.mk (hb); have n3_ := Aside0.mk (ho); clear HO_5; clear HO_23; clear HB; clear HO289; have HO_5 := n0_; have HO_23 := n1_; have HB := n2_; have HO292 := n3_; clear n0_ n1_ n2_ n3_; clear ho hb hg hat; obtain ⟨Ao135, co135, eo135⟩ := Kd.R_slice HO292.out; subst eo135; have p293 : 0 ≤ (0 : Int) := (by omega); have q293 : 0 < (y290.length : Int) := of_decide_eq_true (by first | (with_reducible assumption) | assumption); obtain ⟨ad293, e293, hx293_0⟩ := Kd.at_int (Kd.R_reads' HO292.out).2.2 0 p293 q293; cases e293; have qi293 : (0 < y290.length) = True := eq_true (by omega); (try rw [show ((0 : Int)).toNat = 0 from rfl] at hx293_0); (try rw [Addr.add_zero'] at hx293_0); replace p293 := eq_true p293; replace q293 := eq_true q293; have p129 : 0 ≤ (0 : Int) := (by omega); have q129 : (0 : Int) < ((y290.length : Int) : Int) := of_decide_eq_true (by first | (with_reducible assumption) | assumption); have qi129 : (0 < y290.length) = True := eq_true (by omega); obtain ⟨go129, co129, eo129, gb129, gl129, cl129, HG129⟩ := Kd.R_form HO292.out (by omega); (first | cases eo129 | (injection eo129 with ea_ en_ ec_; (first | subst ea_ | (injection ea_ with ea_; subst ea_)); subst ec_; clear en_)); have GB129 := Aside0.mk gb129; have GG129 := Aside0.mk HG129; clear gb129 gl129 HG129; (first | simp only [add_plain] at hx293_0 | skip); obtain ⟨hx129_0, hf129_0⟩ := Kd.R_celln 0 HO292.out (0 : Int) p129 q129; (try rw [show ((0 : Int)).toNat = 0 from rfl] at hx129_0); (try simp only [Nat.reduceMul, Nat.zero_mul, Nat.zero_add, Nat.reduceAdd] at hx129_0); (try rw [show ((0 : Int)).toNat = 0 from rfl] at hf129_0); (try simp only [Nat.reduceMul, Nat.zero_mul, Nat.zero_add, Nat.reduceAdd] at hf129_0); replace p129 := eq_true p129; replace q129 := eq_true q129; obtain ⟨hy136_, hz136_⟩ := Kd.R_celln 0 HO292.out (0 : Int) (by omega) (of_decide_eq_true (by first | (with_reducible assumption) | assumption)); (try simp only [Int.reduceToNat, Int.toNat_zero, Int.toNat_ofNat, Nat.reduceMul, Nat.zero_mul, Nat.zero_add] at hy136_ hz136_); (try rw [show ((0 : Int)).toNat = 0 from rfl] at hy136_); (try rw [show ((0 : Int)).toNat = 0 from rfl] at hz136_); have HP136 := Kd.R_putg HO292.out (0 : Int) (wrap64 ((rd y290 0) + 1))) | ((with_reducible refine gate_store (t := 2) (p := 342) rfl ?_); (try (rw [drewN_self w134]; generalize hq_ : World.drewN w134 _ = w134; have n0_ := Aside0.mk (Kd.R_at hq_ HO_5.out); have n1_ := Aside0.mk (Kd.R_at hq_ HO_23.out); have n2_ := Aside0.mk (Kd.R_at hq_ HO292.out); have n3_ := Aside0.mk (below_at hq_ HB.out); clear hq_ HO_5 HO_23 HO292 HB; have HO_5 := n0_; have HO_23 := n1_; have HO292 := n2_; have HB := n3_; clear n0_ n1_ n2_ n3_; (try (obtain ⟨hy136_, hz136_⟩ := Kd.R_celln 0 HO292.out (0 : Int) (by omega) (of_decide_eq_true (by first | (with_reducible assumption) | assumption)))); (try (try simp only [Int.reduceToNat, Int.toNat_zero, Int.toNat_ofNat, Nat.reduceMul, Nat.zero_mul, Nat.zero_add] at hy136_ hz136_)); (try (try rw [show ((0 : Int)).toNat = 0 from rfl] at hy136_)); (try (try rw [show ((0 : Int)).toNat = 0 from rfl] at hz136_)); (try (have HP136 := Kd.R_putg HO292.out (0 : Int) (wrap64 ((rd y290 0) + 1)))))); refine store_event (t := 2) (p := 342) (v := ?vo_w137) (w1 := (w134.setCell ⟨go129, (0 : Int).toNat, none⟩ (.int .i64 (wrap64 ((rd y290 0) + 1))))) ?hg ?ho ?hn ?hr ?_; (case ho => rfl); (case hg => rfl); (case hn => rfl); (case hr => first | (go_simp; done) | (go_simp; rfl)); intro w137 hw; have hg : w134.grownBy w137 (some go129) := (by rw [hw]; exact HP136.2); have hp_ : Kd.R (Kd.int .i64) 2 w137 w.heap.size (fun k_ => some k_ ≠ (.slice Ao15 x5_28.length co15 : Value).ownBlock ∧ some k_ ≠ (.slice Ao96 t272.length co96 : Value).ownBlock) (.slice (some ⟨go129, 0, none⟩) y290.length co135) y294 := (by rw [hw, Ny294.out]; exact HP136.1); clear HP136; have n0_ := Aside0.mk (Kd.R_after (v := (.slice (some ⟨go129, 0, none⟩) y290.length co135)) (v1 := (.slice (some ⟨go129, 0, none⟩) y290.length co135)) (ok := (fun k_ => some k_ ≠ (.slice Ao96 t272.length co96 : Value).ownBlock)) (by (with_reducible repeat (first | apply Kd.R_alloc | apply Kd.R_drewN | apply Kd.R_drew)); exact HO_5.out) hg (.inl rfl)); have n1_ := Aside0.mk (Kd.R_after (v := (.slice (some ⟨go129, 0, none⟩) y290.length co135)) (v1 := (.slice (some ⟨go129, 0, none⟩) y290.length co135)) (ok := (fun k_ => some k_ ≠ (.slice Ao15 x5_28.length co15 : Value).ownBlock)) (by (with_reducible repeat (first | apply Kd.R_alloc | apply Kd.R_drewN | apply Kd.R_drew)); exact HO_23.out) hg (.inl rfl)); have n2_ := Aside0.mk (hp_); have n3_ := Aside0.mk ((by rw [hw]; exact below_set (HB.out) GB129.out : Below w.heap.size w w137)); clear HO_5; clear HO_23; clear HO292; clear HB; have HO_5 := n0_; have HO_23 := n1_; have HO292 := n2_; have HB := n3_; clear n0_ n1_ n2_ n3_; clear hg hw hp_) | (go_at_call 28; refine calls_of_args (args' := #[.slice Ao15 x5_28.length co15, .int .i64 (wrap64 (t232 + (wrap64 (7 * t233)))), .slice (some ⟨go129, 0, none⟩) y294.length co135]) (by first | (rw [show y294.length = y290.length from (Kd.R_reads' HO292.out).1.symm] <;> rfl) | rfl) ?_; (with_reducible refine (impl_CheckAwards.calls k5 _ _ x5_28 (wrap64 (t232 + (wrap64 (7 * t233)))) _ _ y294 t295 t296 _ ?side1 ?side2 ?side3 ?side4 A130.out).mono ?_); (case side1 => repeat (first | exact (Kd.R_reads' HO_5.out).2.2 | (with_reducible refine Kd.C_alloc ?_ _) | (with_reducible refine Kd.C_drewN ?_ _) | (with_reducible refine Kd.C_drew ?_))); (case side2 => exact (Kd.R_reads' HO_5.out).2.1); (case side3 => repeat (first | exact (Kd.R_reads' HO292.out).2.2 | (with_reducible refine Kd.C_alloc ?_ _) | (with_reducible refine Kd.C_drewN ?_ _) | (with_reducible refine Kd.C_drew ?_))); (case side4 => rw [show y294.length = y290.length from (Kd.R_reads' HO292.out).1.symm]; exact (Kd.R_reads' HO292.out).2.1); rintro e w138 ⟨rfl, hb⟩; have n0_ := Aside0.mk (Kd.R_below (by (with_reducible repeat (first | apply Kd.R_alloc | apply Kd.R_drewN | apply Kd.R_drew)); exact HO_5.out) hb); have n1_ := Aside0.mk (Kd.R_below (by (with_reducible repeat (first | apply Kd.R_alloc | apply Kd.R_drewN | apply Kd.R_drew)); exact HO_23.out) hb); have n2_ := Aside0.mk (Kd.R_below (by (with_reducible repeat (first | apply Kd.R_alloc | apply Kd.R_drewN | apply Kd.R_drew)); exact HO292.out) hb); have n3_ := Aside0.mk (below_step (by repeat (first | (with_reducible first | exact HB.out | apply below_alloc | apply pw_below_drewN | apply below_drew1) | exact HB.out)) hb); clear HO_5; clear HO_23; clear HO292; clear HB; have HO_5 := n0_; have HO_23 := n1_; have HO292 := n2_; have HB := n3_; clear n0_ n1_ n2_ n3_; (try clear hb); (try clear hb2); (try clear hk); (try clear hi)))
                     repeat (go_quiet (fail); try go_wp2_with (first | ((with_reducible refine gate_dst (N := 335) rfl ?_); (try (refine gate_guard (by rfl) ?_; dsimp only)); refine Kd.R_lit (Kd.int .i64) _ 2 ?hg (N := 335) ?hd (xs := ([] : List Int)) (inner := []) (ok := fun _ => True) (okp := fun _ => True) ?hr ?hp (fun _ hk => hk) trivial (Below.refl _ _) (Nat.le_refl _) (by simp) ?_; (case hd => rfl); (case hg => rfl); (case hr => first | (go_simp; done) | (go_simp; rfl)); (case hp => exact (Reps.none _ _)); intro v288 w132 ho133 hb hg_ hnew_; clear hg_ hnew_; (first | rw [← Ny287.out] at ho133 | (simp only [Int.reduceToNat] at ho133; rw [← Ny287.out] at ho133)); have n0_ := Aside0.mk (Kd.R_elder' (by (with_reducible repeat (first | apply Kd.R_alloc | apply Kd.R_drewN | apply Kd.R_drew)); exact HO_5.out) (Kd.R_base ho133) hb); have n1_ := Aside0.mk (Kd.R_elder' (by (with_reducible repeat (first | apply Kd.R_alloc | apply Kd.R_drewN | apply Kd.R_drew)); exact HO_23.out) (Kd.R_base ho133) hb); have n2_ := Aside0.mk (Kd.R_lower (Kd.R_new' (Kd.R_new' ho133 (Kd.R_lt (by (with_reducible repeat (first | apply Kd.R_alloc | apply Kd.R_drewN | apply Kd.R_drew)); exact HO_5.out))) (Kd.R_lt (by (with_reducible repeat (first | apply Kd.R_alloc | apply Kd.R_drewN | apply Kd.R_drew)); exact HO_23.out))) (below_size (by repeat (first | (with_reducible first | exact HB.out | apply below_alloc | apply pw_below_drewN | apply below_drew1) | exact HB.out)))); have n3_ := Aside0.mk (below_step (by repeat (first | (with_reducible first | exact HB.out | apply below_alloc | apply pw_below_drewN | apply below_drew1) | exact HB.out)) hb); clear HO_5; clear HO_23; clear HB; have HO_5 := n0_; have HO_23 := n1_; have HO289 := n2_; have HB := n3_; clear n0_ n1_ n2_ n3_; clear hb ho133) | ((with_reducible refine gate_builtin (b := .append) (xs := #[.tmp 335, .tmp 336]) rfl ?_); (try (refine gate_guard (by rfl) ?_; dsimp only)); at_builtin; refine Kd.R_append_rows (Kd.int .i64) (w0 := w) w.heap.size rfl (.tmp 335) (.tmp 336) 38 2 (.int .i64 0) 8 rfl Try.underlying38 info2 rfl (by decide) (by omega) v288 y287 t272 _ _ _ (fun k_ => some k_ ≠ (.slice Ao15 x5_28.length co15 : Value).ownBlock ∧ some k_ ≠ (.slice Ao96 t272.length co96 : Value).ownBlock) (fun _ => False) rfl rfl ?aO ?aR (fun _ _ h => h) (fun _ h => h.elim) ?aF ?aB ?aS ?aL ?_; (case aR => repeat (first | exact (Kd.R_reads' HO_23.out).2.2 | (with_reducible refine Kd.C_alloc ?_ _) | (with_reducible refine Kd.C_drewN ?_ _) | (with_reducible refine Kd.C_drew ?_))); (case aB => exact (by repeat (first | (with_reducible first | exact HB.out | apply below_alloc | apply pw_below_drewN | apply below_drew1) | exact HB.out))); (case aF => exact (fun k_ hk => ⟨Kd.fresh' (Kd.R_lt (by (with_reducible repeat (first | apply Kd.R_alloc | apply Kd.R_drewN | apply Kd.R_drew)); exact HO_5.out)) k_ hk, Kd.fresh' (Kd.R_lt (by (with_reducible repeat (first | apply Kd.R_alloc | apply Kd.R_drewN | apply Kd.R_drew)); exact HO_23.out)) k_ hk⟩)); (case aO => exact (by (with_reducible repeat (first | apply Kd.R_alloc | apply Kd.R_drewN | apply Kd.R_drew)); exact Kd.R_mono HO289.out (fun _ hk => ⟨hk.1.2, hk.2⟩))); (case aS => exact (below_size (by repeat (first | (with_reducible first | exact HB.out | apply below_alloc | apply pw_below_drewN | apply below_drew1) | exact HB.out)))); (case aL => have := LMc127.out; omega); intro v291 w134 ho hb hg hat; rw [← Ny290.out] at ho; have n0_ := Aside0.mk (Kd.R_after (ok := (fun k_ => some k_ ≠ (.slice Ao96 t272.length co96 : Value).ownBlock)) (by (with_reducible repeat (first | apply Kd.R_alloc | apply Kd.R_drewN | apply Kd.R_drew)); exact HO_5.out) hg hat); have n1_ := Aside0.mk (Kd.R_after (ok := (fun k_ => some k_ ≠ (.slice Ao15 x5_28.length co15 : Value).ownBlock)) (by (with_reducible repeat (first | apply Kd.R_alloc | apply Kd.R_drewN | apply Kd.R_drew)); exact HO_23.out) hg hat); have n2_ := Aside0.mk (hb); have n3_ := Aside0.mk (ho); clear HO_5; clear HO_23; clear HB; clear HO289; have HO_5 := n0_; have HO_23 := n1_; have HB := n2_; have HO292 := n3_; clear n0_ n1_ n2_ n3_; clear ho hb hg hat; obtain ⟨Ao135, co135, eo135⟩ := Kd.R_slice HO292.out; subst eo135; have p293 : 0 ≤ (0 : Int) := (by omega); have q293 : 0 < (y290.length : Int) := of_decide_eq_true (by first | (with_reducible assumption) | assumption); obtain ⟨ad293, e293, hx293_0⟩ := Kd.at_int (Kd.R_reads' HO292.out).2.2 0 p293 q293; cases e293; have qi293 : (0 < y290.length) = True := eq_true (by omega); (try rw [show ((0 : Int)).toNat = 0 from rfl] at hx293_0); (try rw [Addr.add_zero'] at hx293_0); replace p293 := eq_true p293; replace q293 := eq_true q293; have p129 : 0 ≤ (0 : Int) := (by omega); have q129 : (0 : Int) < ((y290.length : Int) : Int) := of_decide_eq_true (by first | (with_reducible assumption) | assumption); have qi129 : (0 < y290.length) = True := eq_true (by omega); obtain ⟨go129, co129, eo129, gb129, gl129, cl129, HG129⟩ := Kd.R_form HO292.out (by omega); (first | cases eo129 | (injection eo129 with ea_ en_ ec_; (first | subst ea_ | (injection ea_ with ea_; subst ea_)); subst ec_; clear en_)); have GB129 := Aside0.mk gb129; have GG129 := Aside0.mk HG129; clear gb129 gl129 HG129; (first | simp only [add_plain] at hx293_0 | skip); obtain ⟨hx129_0, hf129_0⟩ := Kd.R_celln 0 HO292.out (0 : Int) p129 q129; (try rw [show ((0 : Int)).toNat = 0 from rfl] at hx129_0); (try simp only [Nat.reduceMul, Nat.zero_mul, Nat.zero_add, Nat.reduceAdd] at hx129_0); (try rw [show ((0 : Int)).toNat = 0 from rfl] at hf129_0); (try simp only [Nat.reduceMul, Nat.zero_mul, Nat.zero_add, Nat.reduceAdd] at hf129_0); replace p129 := eq_true p129; replace q129 := eq_true q129; obtain ⟨hy136_, hz136_⟩ := Kd.R_celln 0 HO292.out (0 : Int) (by omega) (of_decide_eq_true (by first | (with_reducible assumption) | assumption)); (try simp only [Int.reduceToNat, Int.toNat_zero, Int.toNat_ofNat, Nat.reduceMul, Nat.zero_mul, Nat.zero_add] at hy136_ hz136_); (try rw [show ((0 : Int)).toNat = 0 from rfl] at hy136_); (try rw [show ((0 : Int)).toNat = 0 from rfl] at hz136_); have HP136 := Kd.R_putg HO292.out (0 : Int) (wrap64 ((rd y290 0) + 1))) | ((with_reducible refine gate_store (t := 2) (p := 342) rfl ?_); (try (rw [drewN_self w134]; generalize hq_ : World.drewN w134 _ = w134; have n0_ := Aside0.mk (Kd.R_at hq_ HO_5.out); have n1_ := Aside0.mk (Kd.R_at hq_ HO_23.out); have n2_ := Aside0.mk (Kd.R_at hq_ HO292.out); have n3_ := Aside0.mk (below_at hq_ HB.out); clear hq_ HO_5 HO_23 HO292 HB; have HO_5 := n0_; have HO_23 := n1_; have HO292 := n2_; have HB := n3_; clear n0_ n1_ n2_ n3_; (try (obtain ⟨hy136_, hz136_⟩ := Kd.R_celln 0 HO292.out (0 : Int) (by omega) (of_decide_eq_true (by first | (with_reducible assumption) | assumption)))); (try (try simp only [Int.reduceToNat, Int.toNat_zero, Int.toNat_ofNat, Nat.reduceMul, Nat.zero_mul, Nat.zero_add] at hy136_ hz136_)); (try (try rw [show ((0 : Int)).toNat = 0 from rfl] at hy136_)); (try (try rw [show ((0 : Int)).toNat = 0 from rfl] at hz136_)); (try (have HP136 := Kd.R_putg HO292.out (0 : Int) (wrap64 ((rd y290 0) + 1)))))); refine store_event (t := 2) (p := 342) (v := ?vo_w137) (w1 := (w134.setCell ⟨go129, (0 : Int).toNat, none⟩ (.int .i64 (wrap64 ((rd y290 0) + 1))))) ?hg ?ho ?hn ?hr ?_; (case ho => rfl); (case hg => rfl); (case hn => rfl); (case hr => first | (go_simp; done) | (go_simp; rfl)); intro w137 hw; have hg : w134.grownBy w137 (some go129) := (by rw [hw]; exact HP136.2); have hp_ : Kd.R (Kd.int .i64) 2 w137 w.heap.size (fun k_ => some k_ ≠ (.slice Ao15 x5_28.length co15 : Value).ownBlock ∧ some k_ ≠ (.slice Ao96 t272.length co96 : Value).ownBlock) (.slice (some ⟨go129, 0, none⟩) y290.length co135) y294 := (by rw [hw, Ny294.out]; exact HP136.1); clear HP136; have n0_ := Aside0.mk (Kd.R_after (v := (.slice (some ⟨go129, 0, none⟩) y290.length co135)) (v1 := (.slice (some ⟨go129, 0, none⟩) y290.length co135)) (ok := (fun k_ => some k_ ≠ (.slice Ao96 t272.length co96 : Value).ownBlock)) (by (with_reducible repeat (first | apply Kd.R_alloc | apply Kd.R_drewN | apply Kd.R_drew)); exact HO_5.out) hg (.inl rfl)); have n1_ := Aside0.mk (Kd.R_after (v := (.slice (some ⟨go129, 0, none⟩) y290.length co135)) (v1 := (.slice (some ⟨go129, 0, none⟩) y290.length co135)) (ok := (fun k_ => some k_ ≠ (.slice Ao15 x5_28.length co15 : Value).ownBlock)) (by (with_reducible repeat (first | apply Kd.R_alloc | apply Kd.R_drewN | apply Kd.R_drew)); exact HO_23.out) hg (.inl rfl)); have n2_ := Aside0.mk (hp_); have n3_ := Aside0.mk ((by rw [hw]; exact below_set (HB.out) GB129.out : Below w.heap.size w w137)); clear HO_5; clear HO_23; clear HO292; clear HB; have HO_5 := n0_; have HO_23 := n1_; have HO292 := n2_; have HB := n3_; clear n0_ n1_ n2_ n3_; clear hg hw hp_) | (go_at_call 28; refine calls_of_args (args' := #[.slice Ao15 x5_28.length co15, .int .i64 (wrap64 (t232 + (wrap64 (7 * t233)))), .slice (some ⟨go129, 0, none⟩) y294.length co135]) (by first | (rw [show y294.length = y290.length from (Kd.R_reads' HO292.out).1.symm] <;> rfl) | rfl) ?_; (with_reducible refine (impl_CheckAwards.calls k5 _ _ x5_28 (wrap64 (t232 + (wrap64 (7 * t233)))) _ _ y294 t295 t296 _ ?side1 ?side2 ?side3 ?side4 A130.out).mono ?_); (case side1 => repeat (first | exact (Kd.R_reads' HO_5.out).2.2 | (with_reducible refine Kd.C_alloc ?_ _) | (with_reducible refine Kd.C_drewN ?_ _) | (with_reducible refine Kd.C_drew ?_))); (case side2 => exact (Kd.R_reads' HO_5.out).2.1); (case side3 => repeat (first | exact (Kd.R_reads' HO292.out).2.2 | (with_reducible refine Kd.C_alloc ?_ _) | (with_reducible refine Kd.C_drewN ?_ _) | (with_reducible refine Kd.C_drew ?_))); (case side4 => rw [show y294.length = y290.length from (Kd.R_reads' HO292.out).1.symm]; exact (Kd.R_reads' HO292.out).2.1); rintro e w138 ⟨rfl, hb⟩; have n0_ := Aside0.mk (Kd.R_below (by (with_reducible repeat (first | apply Kd.R_alloc | apply Kd.R_drewN | apply Kd.R_drew)); exact HO_5.out) hb); have n1_ := Aside0.mk (Kd.R_below (by (with_reducible repeat (first | apply Kd.R_alloc | apply Kd.R_drewN | apply Kd.R_drew)); exact HO_23.out) hb); have n2_ := Aside0.mk (Kd.R_below (by (with_reducible repeat (first | apply Kd.R_alloc | apply Kd.R_drewN | apply Kd.R_drew)); exact HO292.out) hb); have n3_ := Aside0.mk (below_step (by repeat (first | (with_reducible first | exact HB.out | apply below_alloc | apply pw_below_drewN | apply below_drew1) | exact HB.out)) hb); clear HO_5; clear HO_23; clear HO292; clear HB; have HO_5 := n0_; have HO_23 := n1_; have HO292 := n2_; have HB := n3_; clear n0_ n1_ n2_ n3_; (try clear hb); (try clear hb2); (try clear hk); (try clear hi))))
                     go_ret
                     exact ⟨by first | rfl | (simp [errW_none, errW_some] <;> rfl) | (simp only [← hji124]; first | rfl | (simp [errW_none, errW_some] <;> rfl)) | (simp [*, errW_none, errW_some] <;> rfl), by repeat (first | (with_reducible first | exact HB.out | apply below_alloc | apply pw_below_drewN | apply below_drew1) | exact HB.out)⟩
                    ·rw [if_neg c131] at H
                     have c131b0 : (t296 == 0) = false := beq_eq_false_iff_ne.mpr c131
                     have c131b1 : (t296 != 0) = true := bne_iff_ne.mpr c131
                     obtain rfl := Option.some.inj H
                     go_wp2_with (first | ((with_reducible refine gate_dst (N := 335) rfl ?_); (try (refine gate_guard (by rfl) ?_; dsimp only)); refine Kd.R_lit (Kd.int .i64) _ 2 ?hg (N := 335) ?hd (xs := ([] : List Int)) (inner := []) (ok := fun _ => True) (okp := fun _ => True) ?hr ?hp (fun _ hk => hk) trivial (Below.refl _ _) (Nat.le_refl _) (by simp) ?_; (case hd => rfl); (case hg => rfl); (case hr => first | (go_simp; done) | (go_simp; rfl)); (case hp => exact (Reps.none _ _)); intro v288 w139 ho140 hb hg_ hnew_; clear hg_ hnew_; (first | rw [← Ny287.out] at ho140 | (simp only [Int.reduceToNat] at ho140; rw [← Ny287.out] at ho140)); have n0_ := Aside0.mk (Kd.R_elder' (by (with_reducible repeat (first | apply Kd.R_alloc | apply Kd.R_drewN | apply Kd.R_drew)); exact HO_5.out) (Kd.R_base ho140) hb); have n1_ := Aside0.mk (Kd.R_elder' (by (with_reducible repeat (first | apply Kd.R_alloc | apply Kd.R_drewN | apply Kd.R_drew)); exact HO_23.out) (Kd.R_base ho140) hb); have n2_ := Aside0.mk (Kd.R_lower (Kd.R_new' (Kd.R_new' ho140 (Kd.R_lt (by (with_reducible repeat (first | apply Kd.R_alloc | apply Kd.R_drewN | apply Kd.R_drew)); exact HO_5.out))) (Kd.R_lt (by (with_reducible repeat (first | apply Kd.R_alloc | apply Kd.R_drewN | apply Kd.R_drew)); exact HO_23.out))) (below_size (by repeat (first | (with_reducible first | exact HB.out | apply below_alloc | apply pw_below_drewN | apply below_drew1) | exact HB.out)))); have n3_ := Aside0.mk (below_step (by repeat (first | (with_reducible first | exact HB.out | apply below_alloc | apply pw_below_drewN | apply below_drew1) | exact HB.out)) hb); clear HO_5; clear HO_23; clear HB; have HO_5 := n0_; have HO_23 := n1_; have HO289 := n2_; have HB := n3_; clear n0_ n1_ n2_ n3_; clear hb ho140) | ((with_reducible refine gate_builtin (b := .append) (xs := #[.tmp 335, .tmp 336]) rfl ?_); (try (refine gate_guard (by rfl) ?_; dsimp only)); at_builtin; refine Kd.R_append_rows (Kd.int .i64) (w0 := w) w.heap.size rfl (.tmp 335) (.tmp 336) 38 2 (.int .i64 0) 8 rfl Try.underlying38 info2 rfl (by decide) (by omega) v288 y287 t272 _ _ _ (fun k_ => some k_ ≠ (.slice Ao15 x5_28.length co15 : Value).ownBlock ∧ some k_ ≠ (.slice Ao96 t272.length co96 : Value).ownBlock) (fun _ => False) rfl rfl ?aO ?aR (fun _ _ h => h) (fun _ h => h.elim) ?aF ?aB ?aS ?aL ?_; (case aR => repeat (first | exact (Kd.R_reads' HO_23.out).2.2 | (with_reducible refine Kd.C_alloc ?_ _) | (with_reducible refine Kd.C_drewN ?_ _) | (with_reducible refine Kd.C_drew ?_))); (case aB => exact (by repeat (first | (with_reducible first | exact HB.out | apply below_alloc | apply pw_below_drewN | apply below_drew1) | exact HB.out))); (case aF => exact (fun k_ hk => ⟨Kd.fresh' (Kd.R_lt (by (with_reducible repeat (first | apply Kd.R_alloc | apply Kd.R_drewN | apply Kd.R_drew)); exact HO_5.out)) k_ hk, Kd.fresh' (Kd.R_lt (by (with_reducible repeat (first | apply Kd.R_alloc | apply Kd.R_drewN | apply Kd.R_drew)); exact HO_23.out)) k_ hk⟩)); (case aO => exact (by (with_reducible repeat (first | apply Kd.R_alloc | apply Kd.R_drewN | apply Kd.R_drew)); exact Kd.R_mono HO289.out (fun _ hk => ⟨hk.1.2, hk.2⟩))); (case aS => exact (below_size (by repeat (first | (with_reducible first | exact HB.out | apply below_alloc | apply pw_below_drewN | apply below_drew1) | exact HB.out)))); (case aL => have := LMc127.out; omega); intro v291 w141 ho hb hg hat; rw [← Ny290.out] at ho; have n0_ := Aside0.mk (Kd.R_after (ok := (fun k_ => some k_ ≠ (.slice Ao96 t272.length co96 : Value).ownBlock)) (by (with_reducible repeat (first | apply Kd.R_alloc | apply Kd.R_drewN | apply Kd.R_drew)); exact HO_5.out) hg hat); have n1_ := Aside0.mk (Kd.R_after (ok := (fun k_ => some k_ ≠ (.slice Ao15 x5_28.length co15 : Value).ownBlock)) (by (with_reducible repeat (first | apply Kd.R_alloc | apply Kd.R_drewN | apply Kd.R_drew)); exact HO_23.out) hg hat); have n2_ := Aside0.mk (hb); have n3_ := Aside0.mk (ho); clear HO_5; clear HO_23; clear HB; clear HO289; have HO_5 := n0_; have HO_23 := n1_; have HB := n2_; have HO292 := n3_; clear n0_ n1_ n2_ n3_; clear ho hb hg hat; obtain ⟨Ao142, co142, eo142⟩ := Kd.R_slice HO292.out; subst eo142; have p293 : 0 ≤ (0 : Int) := (by omega); have q293 : 0 < (y290.length : Int) := of_decide_eq_true (by first | (with_reducible assumption) | assumption); obtain ⟨ad293, e293, hx293_0⟩ := Kd.at_int (Kd.R_reads' HO292.out).2.2 0 p293 q293; cases e293; have qi293 : (0 < y290.length) = True := eq_true (by omega); (try rw [show ((0 : Int)).toNat = 0 from rfl] at hx293_0); (try rw [Addr.add_zero'] at hx293_0); replace p293 := eq_true p293; replace q293 := eq_true q293; have p129 : 0 ≤ (0 : Int) := (by omega); have q129 : (0 : Int) < ((y290.length : Int) : Int) := of_decide_eq_true (by first | (with_reducible assumption) | assumption); have qi129 : (0 < y290.length) = True := eq_true (by omega); obtain ⟨go129, co129, eo129, gb129, gl129, cl129, HG129⟩ := Kd.R_form HO292.out (by omega); (first | cases eo129 | (injection eo129 with ea_ en_ ec_; (first | subst ea_ | (injection ea_ with ea_; subst ea_)); subst ec_; clear en_)); have GB129 := Aside0.mk gb129; have GG129 := Aside0.mk HG129; clear gb129 gl129 HG129; (first | simp only [add_plain] at hx293_0 | skip); obtain ⟨hx129_0, hf129_0⟩ := Kd.R_celln 0 HO292.out (0 : Int) p129 q129; (try rw [show ((0 : Int)).toNat = 0 from rfl] at hx129_0); (try simp only [Nat.reduceMul, Nat.zero_mul, Nat.zero_add, Nat.reduceAdd] at hx129_0); (try rw [show ((0 : Int)).toNat = 0 from rfl] at hf129_0); (try simp only [Nat.reduceMul, Nat.zero_mul, Nat.zero_add, Nat.reduceAdd] at hf129_0); replace p129 := eq_true p129; replace q129 := eq_true q129; obtain ⟨hy143_, hz143_⟩ := Kd.R_celln 0 HO292.out (0 : Int) (by omega) (of_decide_eq_true (by first | (with_reducible assumption) | assumption)); (try simp only [Int.reduceToNat, Int.toNat_zero, Int.toNat_ofNat, Nat.reduceMul, Nat.zero_mul, Nat.zero_add] at hy143_ hz143_); (try rw [show ((0 : Int)).toNat = 0 from rfl] at hy143_); (try rw [show ((0 : Int)).toNat = 0 from rfl] at hz143_); have HP143 := Kd.R_putg HO292.out (0 : Int) (wrap64 ((rd y290 0) + 1))) | ((with_reducible refine gate_store (t := 2) (p := 342) rfl ?_); (try (rw [drewN_self w141]; generalize hq_ : World.drewN w141 _ = w141; have n0_ := Aside0.mk (Kd.R_at hq_ HO_5.out); have n1_ := Aside0.mk (Kd.R_at hq_ HO_23.out); have n2_ := Aside0.mk (Kd.R_at hq_ HO292.out); have n3_ := Aside0.mk (below_at hq_ HB.out); clear hq_ HO_5 HO_23 HO292 HB; have HO_5 := n0_; have HO_23 := n1_; have HO292 := n2_; have HB := n3_; clear n0_ n1_ n2_ n3_; (try (obtain ⟨hy143_, hz143_⟩ := Kd.R_celln 0 HO292.out (0 : Int) (by omega) (of_decide_eq_true (by first | (with_reducible assumption) | assumption)))); (try (try simp only [Int.reduceToNat, Int.toNat_zero, Int.toNat_ofNat, Nat.reduceMul, Nat.zero_mul, Nat.zero_add] at hy143_ hz143_)); (try (try rw [show ((0 : Int)).toNat = 0 from rfl] at hy143_)); (try (try rw [show ((0 : Int)).toNat = 0 from rfl] at hz143_)); (try (have HP143 := Kd.R_putg HO292.out (0 : Int) (wrap64 ((rd y290 0) + 1)))))); refine store_event (t := 2) (p := 342) (v := ?vo_w144) (w1 := (w141.setCell ⟨go129, (0 : Int).toNat, none⟩ (.int .i64 (wrap64 ((rd y290 0) + 1))))) ?hg ?ho ?hn ?hr ?_; (case ho => rfl); (case hg => rfl); (case hn => rfl); (case hr => first | (go_simp; done) | (go_simp; rfl)); intro w144 hw; have hg : w141.grownBy w144 (some go129) := (by rw [hw]; exact HP143.2); have hp_ : Kd.R (Kd.int .i64) 2 w144 w.heap.size (fun k_ => some k_ ≠ (.slice Ao15 x5_28.length co15 : Value).ownBlock ∧ some k_ ≠ (.slice Ao96 t272.length co96 : Value).ownBlock) (.slice (some ⟨go129, 0, none⟩) y290.length co142) y294 := (by rw [hw, Ny294.out]; exact HP143.1); clear HP143; have n0_ := Aside0.mk (Kd.R_after (v := (.slice (some ⟨go129, 0, none⟩) y290.length co142)) (v1 := (.slice (some ⟨go129, 0, none⟩) y290.length co142)) (ok := (fun k_ => some k_ ≠ (.slice Ao96 t272.length co96 : Value).ownBlock)) (by (with_reducible repeat (first | apply Kd.R_alloc | apply Kd.R_drewN | apply Kd.R_drew)); exact HO_5.out) hg (.inl rfl)); have n1_ := Aside0.mk (Kd.R_after (v := (.slice (some ⟨go129, 0, none⟩) y290.length co142)) (v1 := (.slice (some ⟨go129, 0, none⟩) y290.length co142)) (ok := (fun k_ => some k_ ≠ (.slice Ao15 x5_28.length co15 : Value).ownBlock)) (by (with_reducible repeat (first | apply Kd.R_alloc | apply Kd.R_drewN | apply Kd.R_drew)); exact HO_23.out) hg (.inl rfl)); have n2_ := Aside0.mk (hp_); have n3_ := Aside0.mk ((by rw [hw]; exact below_set (HB.out) GB129.out : Below w.heap.size w w144)); clear HO_5; clear HO_23; clear HO292; clear HB; have HO_5 := n0_; have HO_23 := n1_; have HO292 := n2_; have HB := n3_; clear n0_ n1_ n2_ n3_; clear hg hw hp_) | (go_at_call 28; refine calls_of_args (args' := #[.slice Ao15 x5_28.length co15, .int .i64 (wrap64 (t232 + (wrap64 (7 * t233)))), .slice (some ⟨go129, 0, none⟩) y294.length co142]) (by first | (rw [show y294.length = y290.length from (Kd.R_reads' HO292.out).1.symm] <;> rfl) | rfl) ?_; (with_reducible refine (impl_CheckAwards.calls k5 _ _ x5_28 (wrap64 (t232 + (wrap64 (7 * t233)))) _ _ y294 t295 t296 _ ?side1 ?side2 ?side3 ?side4 A130.out).mono ?_); (case side1 => repeat (first | exact (Kd.R_reads' HO_5.out).2.2 | (with_reducible refine Kd.C_alloc ?_ _) | (with_reducible refine Kd.C_drewN ?_ _) | (with_reducible refine Kd.C_drew ?_))); (case side2 => exact (Kd.R_reads' HO_5.out).2.1); (case side3 => repeat (first | exact (Kd.R_reads' HO292.out).2.2 | (with_reducible refine Kd.C_alloc ?_ _) | (with_reducible refine Kd.C_drewN ?_ _) | (with_reducible refine Kd.C_drew ?_))); (case side4 => rw [show y294.length = y290.length from (Kd.R_reads' HO292.out).1.symm]; exact (Kd.R_reads' HO292.out).2.1); rintro e w145 ⟨rfl, hb⟩; have n0_ := Aside0.mk (Kd.R_below (by (with_reducible repeat (first | apply Kd.R_alloc | apply Kd.R_drewN | apply Kd.R_drew)); exact HO_5.out) hb); have n1_ := Aside0.mk (Kd.R_below (by (with_reducible repeat (first | apply Kd.R_alloc | apply Kd.R_drewN | apply Kd.R_drew)); exact HO_23.out) hb); have n2_ := Aside0.mk (Kd.R_below (by (with_reducible repeat (first | apply Kd.R_alloc | apply Kd.R_drewN | apply Kd.R_drew)); exact HO292.out) hb); have n3_ := Aside0.mk (below_step (by repeat (first | (with_reducible first | exact HB.out | apply below_alloc | apply pw_below_drewN | apply below_drew1) | exact HB.out)) hb); clear HO_5; clear HO_23; clear HO292; clear HB; have HO_5 := n0_; have HO_23 := n1_; have HO292 := n2_; have HB := n3_; clear n0_ n1_ n2_ n3_; (try clear hb); (try clear hb2); (try clear hk); (try clear hi)))
                     repeat (go_quiet (fail); try go_wp2_with (first | ((with_reducible refine gate_dst (N := 335) rfl ?_); (try (refine gate_guard (by rfl) ?_; dsimp only)); refine Kd.R_lit (Kd.int .i64) _ 2 ?hg (N := 335) ?hd (xs := ([] : List Int)) (inner := []) (ok := fun _ => True) (okp := fun _ => True) ?hr ?hp (fun _ hk => hk) trivial (Below.refl _ _) (Nat.le_refl _) (by simp) ?_; (case hd => rfl); (case hg => rfl); (case hr => first | (go_simp; done) | (go_simp; rfl)); (case hp => exact (Reps.none _ _)); intro v288 w139 ho140 hb hg_ hnew_; clear hg_ hnew_; (first | rw [← Ny287.out] at ho140 | (simp only [Int.reduceToNat] at ho140; rw [← Ny287.out] at ho140)); have n0_ := Aside0.mk (Kd.R_elder' (by (with_reducible repeat (first | apply Kd.R_alloc | apply Kd.R_drewN | apply Kd.R_drew)); exact HO_5.out) (Kd.R_base ho140) hb); have n1_ := Aside0.mk (Kd.R_elder' (by (with_reducible repeat (first | apply Kd.R_alloc | apply Kd.R_drewN | apply Kd.R_drew)); exact HO_23.out) (Kd.R_base ho140) hb); have n2_ := Aside0.mk (Kd.R_lower (Kd.R_new' (Kd.R_new' ho140 (Kd.R_lt (by (with_reducible repeat (first | apply Kd.R_alloc | apply Kd.R_drewN | apply Kd.R_drew)); exact HO_5.out))) (Kd.R_lt (by (with_reducible repeat (first | apply Kd.R_alloc | apply Kd.R_drewN | apply Kd.R_drew)); exact HO_23.out))) (below_size (by repeat (first | (with_reducible first | exact HB.out | apply below_alloc | apply pw_below_drewN | apply below_drew1) | exact HB.out)))); have n3_ := Aside0.mk (below_step (by repeat (first | (with_reducible first | exact HB.out | apply below_alloc | apply pw_below_drewN | apply below_drew1) | exact HB.out)) hb); clear HO_5; clear HO_23; clear HB; have HO_5 := n0_; have HO_23 := n1_; have HO289 := n2_; have HB := n3_; clear n0_ n1_ n2_ n3_; clear hb ho140) | ((with_reducible refine gate_builtin (b := .append) (xs := #[.tmp 335, .tmp 336]) rfl ?_); (try (refine gate_guard (by rfl) ?_; dsimp only)); at_builtin; refine Kd.R_append_rows (Kd.int .i64) (w0 := w) w.heap.size rfl (.tmp 335) (.tmp 336) 38 2 (.int .i64 0) 8 rfl Try.underlying38 info2 rfl (by decide) (by omega) v288 y287 t272 _ _ _ (fun k_ => some k_ ≠ (.slice Ao15 x5_28.length co15 : Value).ownBlock ∧ some k_ ≠ (.slice Ao96 t272.length co96 : Value).ownBlock) (fun _ => False) rfl rfl ?aO ?aR (fun _ _ h => h) (fun _ h => h.elim) ?aF ?aB ?aS ?aL ?_; (case aR => repeat (first | exact (Kd.R_reads' HO_23.out).2.2 | (with_reducible refine Kd.C_alloc ?_ _) | (with_reducible refine Kd.C_drewN ?_ _) | (with_reducible refine Kd.C_drew ?_))); (case aB => exact (by repeat (first | (with_reducible first | exact HB.out | apply below_alloc | apply pw_below_drewN | apply below_drew1) | exact HB.out))); (case aF => exact (fun k_ hk => ⟨Kd.fresh' (Kd.R_lt (by (with_reducible repeat (first | apply Kd.R_alloc | apply Kd.R_drewN | apply Kd.R_drew)); exact HO_5.out)) k_ hk, Kd.fresh' (Kd.R_lt (by (with_reducible repeat (first | apply Kd.R_alloc | apply Kd.R_drewN | apply Kd.R_drew)); exact HO_23.out)) k_ hk⟩)); (case aO => exact (by (with_reducible repeat (first | apply Kd.R_alloc | apply Kd.R_drewN | apply Kd.R_drew)); exact Kd.R_mono HO289.out (fun _ hk => ⟨hk.1.2, hk.2⟩))); (case aS => exact (below_size (by repeat (first | (with_reducible first | exact HB.out | apply below_alloc | apply pw_below_drewN | apply below_drew1) | exact HB.out)))); (case aL => have := LMc127.out; omega); intro v291 w141 ho hb hg hat; rw [← Ny290.out] at ho; have n0_ := Aside0.mk (Kd.R_after (ok := (fun k_ => some k_ ≠ (.slice Ao96 t272.length co96 : Value).ownBlock)) (by (with_reducible repeat (first | apply Kd.R_alloc | apply Kd.R_drewN | apply Kd.R_drew)); exact HO_5.out) hg hat); have n1_ := Aside0.mk (Kd.R_after (ok := (fun k_ => some k_ ≠ (.slice Ao15 x5_28.length co15 : Value).ownBlock)) (by (with_reducible repeat (first | apply Kd.R_alloc | apply Kd.R_drewN | apply Kd.R_drew)); exact HO_23.out) hg hat); have n2_ := Aside0.mk (hb); have n3_ := Aside0.mk (ho); clear HO_5; clear HO_23; clear HB; clear HO289; have HO_5 := n0_; have HO_23 := n1_; have HB := n2_; have HO292 := n3_; clear n0_ n1_ n2_ n3_; clear ho hb hg hat; obtain ⟨Ao142, co142, eo142⟩ := Kd.R_slice HO292.out; subst eo142; have p293 : 0 ≤ (0 : Int) := (by omega); have q293 : 0 < (y290.length : Int) := of_decide_eq_true (by first | (with_reducible assumption) | assumption); obtain ⟨ad293, e293, hx293_0⟩ := Kd.at_int (Kd.R_reads' HO292.out).2.2 0 p293 q293; cases e293; have qi293 : (0 < y290.length) = True := eq_true (by omega); (try rw [show ((0 : Int)).toNat = 0 from rfl] at hx293_0); (try rw [Addr.add_zero'] at hx293_0); replace p293 := eq_true p293; replace q293 := eq_true q293; have p129 : 0 ≤ (0 : Int) := (by omega); have q129 : (0 : Int) < ((y290.length : Int) : Int) := of_decide_eq_true (by first | (with_reducible assumption) | assumption); have qi129 : (0 < y290.length) = True := eq_true (by omega); obtain ⟨go129, co129, eo129, gb129, gl129, cl129, HG129⟩ := Kd.R_form HO292.out (by omega); (first | cases eo129 | (injection eo129 with ea_ en_ ec_; (first | subst ea_ | (injection ea_ with ea_; subst ea_)); subst ec_; clear en_)); have GB129 := Aside0.mk gb129; have GG129 := Aside0.mk HG129; clear gb129 gl129 HG129; (first | simp only [add_plain] at hx293_0 | skip); obtain ⟨hx129_0, hf129_0⟩ := Kd.R_celln 0 HO292.out (0 : Int) p129 q129; (try rw [show ((0 : Int)).toNat = 0 from rfl] at hx129_0); (try simp only [Nat.reduceMul, Nat.zero_mul, Nat.zero_add, Nat.reduceAdd] at hx129_0); (try rw [show ((0 : Int)).toNat = 0 from rfl] at hf129_0); (try simp only [Nat.reduceMul, Nat.zero_mul, Nat.zero_add, Nat.reduceAdd] at hf129_0); replace p129 := eq_true p129; replace q129 := eq_true q129; obtain ⟨hy143_, hz143_⟩ := Kd.R_celln 0 HO292.out (0 : Int) (by omega) (of_decide_eq_true (by first | (with_reducible assumption) | assumption)); (try simp only [Int.reduceToNat, Int.toNat_zero, Int.toNat_ofNat, Nat.reduceMul, Nat.zero_mul, Nat.zero_add] at hy143_ hz143_); (try rw [show ((0 : Int)).toNat = 0 from rfl] at hy143_); (try rw [show ((0 : Int)).toNat = 0 from rfl] at hz143_); have HP143 := Kd.R_putg HO292.out (0 : Int) (wrap64 ((rd y290 0) + 1))) | ((with_reducible refine gate_store (t := 2) (p := 342) rfl ?_); (try (rw [drewN_self w141]; generalize hq_ : World.drewN w141 _ = w141; have n0_ := Aside0.mk (Kd.R_at hq_ HO_5.out); have n1_ := Aside0.mk (Kd.R_at hq_ HO_23.out); have n2_ := Aside0.mk (Kd.R_at hq_ HO292.out); have n3_ := Aside0.mk (below_at hq_ HB.out); clear hq_ HO_5 HO_23 HO292 HB; have HO_5 := n0_; have HO_23 := n1_; have HO292 := n2_; have HB := n3_; clear n0_ n1_ n2_ n3_; (try (obtain ⟨hy143_, hz143_⟩ := Kd.R_celln 0 HO292.out (0 : Int) (by omega) (of_decide_eq_true (by first | (with_reducible assumption) | assumption)))); (try (try simp only [Int.reduceToNat, Int.toNat_zero, Int.toNat_ofNat, Nat.reduceMul, Nat.zero_mul, Nat.zero_add] at hy143_ hz143_)); (try (try rw [show ((0 : Int)).toNat = 0 from rfl] at hy143_)); (try (try rw [show ((0 : Int)).toNat = 0 from rfl] at hz143_)); (try (have HP143 := Kd.R_putg HO292.out (0 : Int) (wrap64 ((rd y290 0) + 1)))))); refine store_event (t := 2) (p := 342) (v := ?vo_w144) (w1 := (w141.setCell ⟨go129, (0 : Int).toNat, none⟩ (.int .i64 (wrap64 ((rd y290 0) + 1))))) ?hg ?ho ?hn ?hr ?_; (case ho => rfl); (case hg => rfl); (case hn => rfl); (case hr => first | (go_simp; done) | (go_simp; rfl)); intro w144 hw; have hg : w141.grownBy w144 (some go129) := (by rw [hw]; exact HP143.2); have hp_ : Kd.R (Kd.int .i64) 2 w144 w.heap.size (fun k_ => some k_ ≠ (.slice Ao15 x5_28.length co15 : Value).ownBlock ∧ some k_ ≠ (.slice Ao96 t272.length co96 : Value).ownBlock) (.slice (some ⟨go129, 0, none⟩) y290.length co142) y294 := (by rw [hw, Ny294.out]; exact HP143.1); clear HP143; have n0_ := Aside0.mk (Kd.R_after (v := (.slice (some ⟨go129, 0, none⟩) y290.length co142)) (v1 := (.slice (some ⟨go129, 0, none⟩) y290.length co142)) (ok := (fun k_ => some k_ ≠ (.slice Ao96 t272.length co96 : Value).ownBlock)) (by (with_reducible repeat (first | apply Kd.R_alloc | apply Kd.R_drewN | apply Kd.R_drew)); exact HO_5.out) hg (.inl rfl)); have n1_ := Aside0.mk (Kd.R_after (v := (.slice (some ⟨go129, 0, none⟩) y290.length co142)) (v1 := (.slice (some ⟨go129, 0, none⟩) y290.length co142)) (ok := (fun k_ => some k_ ≠ (.slice Ao15 x5_28.length co15 : Value).ownBlock)) (by (with_reducible repeat (first | apply Kd.R_alloc | apply Kd.R_drewN | apply Kd.R_drew)); exact HO_23.out) hg (.inl rfl)); have n2_ := Aside0.mk (hp_); have n3_ := Aside0.mk ((by rw [hw]; exact below_set (HB.out) GB129.out : Below w.heap.size w w144)); clear HO_5; clear HO_23; clear HO292; clear HB; have HO_5 := n0_; have HO_23 := n1_; have HO292 := n2_; have HB := n3_; clear n0_ n1_ n2_ n3_; clear hg hw hp_) | (go_at_call 28; refine calls_of_args (args' := #[.slice Ao15 x5_28.length co15, .int .i64 (wrap64 (t232 + (wrap64 (7 * t233)))), .slice (some ⟨go129, 0, none⟩) y294.length co142]) (by first | (rw [show y294.length = y290.length from (Kd.R_reads' HO292.out).1.symm] <;> rfl) | rfl) ?_; (with_reducible refine (impl_CheckAwards.calls k5 _ _ x5_28 (wrap64 (t232 + (wrap64 (7 * t233)))) _ _ y294 t295 t296 _ ?side1 ?side2 ?side3 ?side4 A130.out).mono ?_); (case side1 => repeat (first | exact (Kd.R_reads' HO_5.out).2.2 | (with_reducible refine Kd.C_alloc ?_ _) | (with_reducible refine Kd.C_drewN ?_ _) | (with_reducible refine Kd.C_drew ?_))); (case side2 => exact (Kd.R_reads' HO_5.out).2.1); (case side3 => repeat (first | exact (Kd.R_reads' HO292.out).2.2 | (with_reducible refine Kd.C_alloc ?_ _) | (with_reducible refine Kd.C_drewN ?_ _) | (with_reducible refine Kd.C_drew ?_))); (case side4 => rw [show y294.length = y290.length from (Kd.R_reads' HO292.out).1.symm]; exact (Kd.R_reads' HO292.out).2.1); rintro e w145 ⟨rfl, hb⟩; have n0_ := Aside0.mk (Kd.R_below (by (with_reducible repeat (first | apply Kd.R_alloc | apply Kd.R_drewN | apply Kd.R_drew)); exact HO_5.out) hb); have n1_ := Aside0.mk (Kd.R_below (by (with_reducible repeat (first | apply Kd.R_alloc | apply Kd.R_drewN | apply Kd.R_drew)); exact HO_23.out) hb); have n2_ := Aside0.mk (Kd.R_below (by (with_reducible repeat (first | apply Kd.R_alloc | apply Kd.R_drewN | apply Kd.R_drew)); exact HO292.out) hb); have n3_ := Aside0.mk (below_step (by repeat (first | (with_reducible first | exact HB.out | apply below_alloc | apply pw_below_drewN | apply below_drew1) | exact HB.out)) hb); clear HO_5; clear HO_23; clear HO292; clear HB; have HO_5 := n0_; have HO_23 := n1_; have HO292 := n2_; have HB := n3_; clear n0_ n1_ n2_ n3_; (try clear hb); (try clear hb2); (try clear hk); (try clear hi))))
                     go_ret
                     exact ⟨by first | rfl | (simp [errW_none, errW_some] <;> rfl) | (simp only [← hji124]; first | rfl | (simp [errW_none, errW_some] <;> rfl)) | (simp [*, errW_none, errW_some] <;> rfl), by repeat (first | (with_reducible first | exact HB.out | apply below_alloc | apply pw_below_drewN | apply below_drew1) | exact HB.out)⟩
                   ·rw [if_neg c128] at H
                    exact absurd H (by simp)
                  ·rw [if_neg c127] at H
                   exact absurd H (by simp)
                ·rw [if_neg c125] at H
                 have c125b0 : (x27_5 == (ji124)) = false := beq_eq_false_iff_ne.mpr c125
                 have c125b1 : (x27_5 != (ji124)) = true := bne_iff_ne.mpr c125
                 obtain rfl := Option.some.inj H
                 go_wp2
                 repeat (go_quiet (fail); try go_wp2)
                 go_ret
                 exact ⟨by first | rfl | (simp [errW_none, errW_some] <;> rfl) | (simp only [← hji124]; first | rfl | (simp [errW_none, errW_some] <;> rfl)) | (simp [*, errW_none, errW_some] <;> rfl), by repeat (first | (with_reducible first | exact HB.out | apply below_alloc | apply pw_below_drewN | apply below_drew1) | exact HB.out)⟩

theorem laws_FnShares.walk (P : laws_FnShares.Pure) (a0 : Option Addr) (len0 cap0 : Nat) (z0 : List Int) (a1 : Option Addr) (len1 cap1 : Nat) (z1 : List Int) (w : World) (w0 : (a0 = none ∧ len0 = 0 ∧ cap0 = 0 ∧ z0 = []) ∨ ∃ x, a0 = some x ∧ len0 ≤ cap0 ∧ cap0 ≤ maxLen ∧ z0.length = cap0 ∧ (∀ i, i < z0.length → w.cell? (x.add i) = some (.int .u8 (z0.getD i 0))) ∧ ∀ n ∈ z0, (Lit.int .u8 n).wf = true) (y0 : len0 * 1 ≤ 140737488351232) (w1 : (a1 = none ∧ len1 = 0 ∧ cap1 = 0 ∧ z1 = []) ∨ ∃ x, a1 = some x ∧ len1 ≤ cap1 ∧ cap1 ≤ maxLen ∧ z1.length = cap1 ∧ (∀ i, i < z1.length → w.cell? (x.add i) = some (.int .u8 (z1.getD i 0))) ∧ ∀ n ∈ z1, (Lit.int .u8 n).wf = true) (y1 : len1 * 1 ≤ 140737488351232) :
  Calls Try.prog 14 #[.slice a0 len0 cap0, .slice a1 len1 cap1] w fun e w' => e = .returned (.bool true) ∧ Below w.heap.size w w' := by
 obtain ⟨l0, rfl, hr0, hm0, hw0, hc0⟩ := ReadsInt.ofRowC w0
 obtain ⟨l1, rfl, hr1, hm1, hw1, hc1⟩ := ReadsInt.ofRowC w1
 obtain ⟨k, h⟩ := P l0 l1 hm0 y0 hw0 hm1 y1 hw1
 refine (laws_FnShares.calls k _ _ l0 _ _ l1 true w (Kd.C_of_reads (d := (0 : Int)) (h1 := fun _ => rfl) hr0) hc0 (Kd.C_of_reads (d := (0 : Int)) (h1 := fun _ => rfl) hr1) hc1 h).mono ?_
 rintro e w' ⟨rfl, hd⟩
 exact ⟨rfl, hd⟩

end Go.Proofs.Ytgdkimdikalmkaa.PFnShares
