/- What the program's functions come to, each as a plain function, with its proof; no condition but those that each theorem names. Written by a program of this claim around the kit's print. -/
import Derived.Test.YtgdkimdikalmkaaPFnStoresx0
import Derived.Test.YtgdkimdikalmkaaPFnStoresx1
import Derived.Test.YtgdkimdikalmkaaPFnStoresx2
namespace Go.Proofs.Ytgdkimdikalmkaa.PFnStores
open Go.RowKit Go.Proofs.YtgdkimdikalmkaaW.PrintWords Go.Proofs.YtgdkimdikalmkaaW.PrintLast Go.Proofs.YtgdkimdikalmkaaW.PrintMore
attribute [local go_sem] max2_int min2_int max_two min_two max_three min_three max_four min_four   -- for this text's walks alone
set_option linter.unusedVariables false
set_option linter.unusedSimpArgs false

/-! ### laws_FnStores: function 6 -/
mutual
def laws_FnStores.j0 : Nat → List Int → List Int → Bool → Option (Bool)
  | 0, _, _, _ => none
  | k + 1, x0, x1, x35 => if x35 = true then (some true) else ((spec_P6Pick.f x0 200).bind fun t141 => ((spec_P6Pick.f x1 100).bind fun t142 => ((spec_P6Pick.f x1 60).bind fun t143 => ((spec_P6Pick.f x0 5).bind fun t144 => (laws_FnStores.l0 k x1 (wrap64 ((wrap64 (100 * t141)) + t142)) t143 t144 (wrap64 ((wrap64 (100 * t141)) + t142)) 0)))))
def laws_FnStores.l0 : Nat → List Int → Int → Int → Int → Int → Int → Option (Bool)
  | 0, _, _, _, _, _, _ => none
  | k + 1, x1, x5, x6, x7, x8, x9 => if x9 ≤ 12 then ((impl_StoreAfter.f k x5 x6 x7 x9).bind fun bt145 => ((spec_StoreAfter.f k x5 x6 x7 x9).bind fun bt148 => (if bt145.2.2 = bt148.2.2 then (if bt145.2.2 = 0 then (if bt145.1 = bt148.1 then (if bt145.2.1 = bt148.2.1 then (if bt148.1 > x8 then (some false) else (if bt148.1 < 0 then (some false) else (if bt148.2.1 = (mx 0 (wrap64 (x6 - (wrap64 (x7 * x9))))) then (laws_FnStores.l0 k x1 x5 x6 x7 bt148.1 (wrap64 (x9 + 1))) else (some false)))) else (some false)) else (some false)) else (some false)) else (some false)))) else ((spec_P6Pick.f x1 200).bind fun t151 => ((impl_DaysOfStore.f k x5 x6 x7 (wrap64 (1 + (wrap64 (t151 * 100))))).bind fun bt152 => ((spec_DaysOfStore.f k x5 x6 x7 (wrap64 (1 + (wrap64 (t151 * 100))))).bind fun bt154 => (if bt152.2 = bt154.2 then (laws_FnStores.j2 k x5 x6 x7 (wrap64 (1 + (wrap64 (t151 * 100)))) bt152.2 bt154.1 (bt152.1 != bt154.1)) else (laws_FnStores.j2 k x5 x6 x7 (wrap64 (1 + (wrap64 (t151 * 100)))) bt152.2 bt154.1 true)))))
def laws_FnStores.j2 : Nat → Int → Int → Int → Int → Int → Int → Bool → Option (Bool)
  | 0, _, _, _, _, _, _, _ => none
  | k + 1, x5, x6, x7, x16, x18, x19, x133 => if x133 = true then (some false) else (if x18 = 0 then ((impl_StoreAfter.f k x5 x6 x7 x19).bind fun bt159 => (if bt159.2.2 = 0 then (laws_FnStores.j3 k x5 x6 x7 x16 x19 (decide (bt159.1 ≥ x16))) else (laws_FnStores.j3 k x5 x6 x7 x16 x19 true))) else ((impl_StoreAfter.f k x5 x6 x7 20).bind fun bt156 => (if x18 = 6 then (if bt156.2.2 = 0 then (some (decide (bt156.1 ≥ x16))) else (some false)) else (some false))))
def laws_FnStores.j3 : Nat → Int → Int → Int → Int → Int → Bool → Option (Bool)
  | 0, _, _, _, _, _, _ => none
  | k + 1, x5, x6, x7, x16, x19, x170 => if x170 = true then (some false) else (if x19 = 0 then (some true) else ((impl_StoreAfter.f k x5 x6 x7 (wrap64 (x19 - 1))).bind fun bt162 => (if bt162.2.2 = 0 then (some (decide (bt162.1 ≥ x16))) else (some false))))
end
def laws_FnStores.f (k : Nat) (l0 : List Int) (l1 : List Int) : Option (Bool) := (laws_f6big.f l0).bind fun t139 => (if t139 = true then (laws_FnStores.j0 k l0 l1 true) else ((laws_f6big.f l1).bind fun t140 => (laws_FnStores.j0 k l0 l1 t140)))
theorem laws_FnStores.mono_l : ∀ k, (∀ y0 y1 y2, LeO (laws_FnStores.j0 k y0 y1 y2) (laws_FnStores.j0 (k + 1) y0 y1 y2)) ∧ (∀ y0 y1 y2 y3 y4 y5, LeO (laws_FnStores.l0 k y0 y1 y2 y3 y4 y5) (laws_FnStores.l0 (k + 1) y0 y1 y2 y3 y4 y5)) ∧ (∀ y0 y1 y2 y3 y4 y5 y6, LeO (laws_FnStores.j2 k y0 y1 y2 y3 y4 y5 y6) (laws_FnStores.j2 (k + 1) y0 y1 y2 y3 y4 y5 y6)) ∧ (∀ y0 y1 y2 y3 y4 y5, LeO (laws_FnStores.j3 k y0 y1 y2 y3 y4 y5) (laws_FnStores.j3 (k + 1) y0 y1 y2 y3 y4 y5))
  | 0 => ⟨fun _ _ _ r h => by simp [laws_FnStores.j0] at h, fun _ _ _ _ _ _ r h => by simp [laws_FnStores.l0] at h, fun _ _ _ _ _ _ _ r h => by simp [laws_FnStores.j2] at h, fun _ _ _ _ _ _ r h => by simp [laws_FnStores.j3] at h⟩
  | k + 1 => by
    obtain ⟨ih0, ih1, ih2, ih3⟩ := laws_FnStores.mono_l k
    refine ⟨?_, ?_, ?_, ?_⟩
    · intro y0 y1 y2
      unfold laws_FnStores.j0
      repeat' first
      | (with_reducible exact ih0 _ _ _)
      | (with_reducible exact ih1 _ _ _ _ _ _)
      | (with_reducible exact ih2 _ _ _ _ _ _ _)
      | (with_reducible exact ih3 _ _ _ _ _ _)
      | (with_reducible exact impl_DaysOfStore.mono _ _ _ _ _)
      | (with_reducible exact impl_StoreAfter.mono _ _ _ _ _)
      | (with_reducible exact spec_DaysOfStore.mono _ _ _ _ _)
      | (with_reducible exact spec_StoreAfter.mono _ _ _ _ _)
      | (with_reducible exact LeO.refl _)
      | (with_reducible exact LeO.none _)
      | (with_reducible refine LeO.ite ?_ ?_)
      | (with_reducible refine LeO.bind ?_ (fun _ => ?_))
      | exact ih0 _ _ _
      | exact ih1 _ _ _ _ _ _
      | exact ih2 _ _ _ _ _ _ _
      | exact ih3 _ _ _ _ _ _
      | exact impl_DaysOfStore.mono _ _ _ _ _
      | exact impl_StoreAfter.mono _ _ _ _ _
      | exact spec_DaysOfStore.mono _ _ _ _ _
      | exact spec_StoreAfter.mono _ _ _ _ _
      | exact LeO.none _
      | refine LeO.ite ?_ ?_
      | refine LeO.bind ?_ (fun _ => ?_)
    · intro y0 y1 y2 y3 y4 y5
      unfold laws_FnStores.l0
      repeat' first
      | (with_reducible exact ih0 _ _ _)
      | (with_reducible exact ih1 _ _ _ _ _ _)
      | (with_reducible exact ih2 _ _ _ _ _ _ _)
      | (with_reducible exact ih3 _ _ _ _ _ _)
      | (with_reducible exact impl_DaysOfStore.mono _ _ _ _ _)
      | (with_reducible exact impl_StoreAfter.mono _ _ _ _ _)
      | (with_reducible exact spec_DaysOfStore.mono _ _ _ _ _)
      | (with_reducible exact spec_StoreAfter.mono _ _ _ _ _)
      | (with_reducible exact LeO.refl _)
      | (with_reducible exact LeO.none _)
      | (with_reducible refine LeO.ite ?_ ?_)
      | (with_reducible refine LeO.bind ?_ (fun _ => ?_))
      | exact ih0 _ _ _
      | exact ih1 _ _ _ _ _ _
      | exact ih2 _ _ _ _ _ _ _
      | exact ih3 _ _ _ _ _ _
      | exact impl_DaysOfStore.mono _ _ _ _ _
      | exact impl_StoreAfter.mono _ _ _ _ _
      | exact spec_DaysOfStore.mono _ _ _ _ _
      | exact spec_StoreAfter.mono _ _ _ _ _
      | exact LeO.none _
      | refine LeO.ite ?_ ?_
      | refine LeO.bind ?_ (fun _ => ?_)
    · intro y0 y1 y2 y3 y4 y5 y6
      unfold laws_FnStores.j2
      repeat' first
      | (with_reducible exact ih0 _ _ _)
      | (with_reducible exact ih1 _ _ _ _ _ _)
      | (with_reducible exact ih2 _ _ _ _ _ _ _)
      | (with_reducible exact ih3 _ _ _ _ _ _)
      | (with_reducible exact impl_DaysOfStore.mono _ _ _ _ _)
      | (with_reducible exact impl_StoreAfter.mono _ _ _ _ _)
      | (with_reducible exact spec_DaysOfStore.mono _ _ _ _ _)
      | (with_reducible exact spec_StoreAfter.mono _ _ _ _ _)
      | (with_reducible exact LeO.refl _)
      | (with_reducible exact LeO.none _)
      | (with_reducible refine LeO.ite ?_ ?_)
      | (with_reducible refine LeO.bind ?_ (fun _ => ?_))
      | exact ih0 _ _ _
      | exact ih1 _ _ _ _ _ _
      | exact ih2 _ _ _ _ _ _ _
      | exact ih3 _ _ _ _ _ _
      | exact impl_DaysOfStore.mono _ _ _ _ _
      | exact impl_StoreAfter.mono _ _ _ _ _
      | exact spec_DaysOfStore.mono _ _ _ _ _
      | exact spec_StoreAfter.mono _ _ _ _ _
      | exact LeO.none _
      | refine LeO.ite ?_ ?_
      | refine LeO.bind ?_ (fun _ => ?_)
    · intro y0 y1 y2 y3 y4 y5
      unfold laws_FnStores.j3
      repeat' first
      | (with_reducible exact ih0 _ _ _)
      | (with_reducible exact ih1 _ _ _ _ _ _)
      | (with_reducible exact ih2 _ _ _ _ _ _ _)
      | (with_reducible exact ih3 _ _ _ _ _ _)
      | (with_reducible exact impl_DaysOfStore.mono _ _ _ _ _)
      | (with_reducible exact impl_StoreAfter.mono _ _ _ _ _)
      | (with_reducible exact spec_DaysOfStore.mono _ _ _ _ _)
      | (with_reducible exact spec_StoreAfter.mono _ _ _ _ _)
      | (with_reducible exact LeO.refl _)
      | (with_reducible exact LeO.none _)
      | (with_reducible refine LeO.ite ?_ ?_)
      | (with_reducible refine LeO.bind ?_ (fun _ => ?_))
      | exact ih0 _ _ _
      | exact ih1 _ _ _ _ _ _
      | exact ih2 _ _ _ _ _ _ _
      | exact ih3 _ _ _ _ _ _
      | exact impl_DaysOfStore.mono _ _ _ _ _
      | exact impl_StoreAfter.mono _ _ _ _ _
      | exact spec_DaysOfStore.mono _ _ _ _ _
      | exact spec_StoreAfter.mono _ _ _ _ _
      | exact LeO.none _
      | refine LeO.ite ?_ ?_
      | refine LeO.bind ?_ (fun _ => ?_)
theorem laws_FnStores.mono : ∀ a0 a1 k, LeO (laws_FnStores.f k a0 a1) (laws_FnStores.f (k + 1) a0 a1) := by
  intro a0 a1 k
  obtain ⟨ih0, ih1, ih2, ih3⟩ := laws_FnStores.mono_l k
  unfold laws_FnStores.f
  repeat' first
      | (with_reducible exact ih0 _ _ _)
      | (with_reducible exact ih1 _ _ _ _ _ _)
      | (with_reducible exact ih2 _ _ _ _ _ _ _)
      | (with_reducible exact ih3 _ _ _ _ _ _)
      | (with_reducible exact impl_DaysOfStore.mono _ _ _ _ _)
      | (with_reducible exact impl_StoreAfter.mono _ _ _ _ _)
      | (with_reducible exact spec_DaysOfStore.mono _ _ _ _ _)
      | (with_reducible exact spec_StoreAfter.mono _ _ _ _ _)
      | (with_reducible exact LeO.refl _)
      | (with_reducible exact LeO.none _)
      | (with_reducible refine LeO.ite ?_ ?_)
      | (with_reducible refine LeO.bind ?_ (fun _ => ?_))
      | exact ih0 _ _ _
      | exact ih1 _ _ _ _ _ _
      | exact ih2 _ _ _ _ _ _ _
      | exact ih3 _ _ _ _ _ _
      | exact impl_DaysOfStore.mono _ _ _ _ _
      | exact impl_StoreAfter.mono _ _ _ _ _
      | exact spec_DaysOfStore.mono _ _ _ _ _
      | exact spec_StoreAfter.mono _ _ _ _ _
      | exact LeO.none _
      | refine LeO.ite ?_ ?_
      | refine LeO.bind ?_ (fun _ => ?_)
set_option maxHeartbeats 8000000 in
set_option maxRecDepth 100000 in
theorem laws_FnStores.calls (k : Nat) (A0 : Option Addr) (c0 : Nat) (l0 : List Int) (A1 : Option Addr) (c1 : Nat) (l1 : List Int) (r : Bool) (w : World) (hr0 : Kd.C (Kd.int .u8) w A0 l0.length l0) (hc0 : l0.length ≤ c0) (hr1 : Kd.C (Kd.int .u8) w A1 l1.length l1) (hc1 : l1.length ≤ c1) (h : laws_FnStores.f k l0 l1 = some r) :
    Calls Try.prog 6 #[.slice A0 l0.length c0, .slice A1 l1.length c1] w fun e w' => e = .returned (.bool r) ∧ Below w.heap.size w w' := by
  have HR0 := Aside0.mk hr0
  have HC0 := Aside0.mk hc0
  clear hr0 hc0
  have HR1 := Aside0.mk hr1
  have HC1 := Aside0.mk hc1
  clear hr1 hc1
  have HB := Aside0.mk (Below.refl w.heap.size w)
  have H : ((laws_f6big.f l0).bind fun t139 => (if t139 = true then (laws_FnStores.j0 k l0 l1 true) else ((laws_f6big.f l1).bind fun t140 => (laws_FnStores.j0 k l0 l1 t140)))) = some r := h
  clear h
  have HC3 := Aside0.mk H
  clear H
  go_enter Try.func6, Try.ntmps6
  go_upto_region 1 with (fail)
  go_cut [35] (fun v35 wc => ∃ (kq : Nat) (x35_2 : Bool), v35 = .bool x35_2 ∧ Aside0 (laws_FnStores.j0 kq l0 l1 x35_2 = some r) ∧ Aside0 (kq ≤ k) ∧ Aside0 (Below w.heap.size w wc))
  case first =>
    have H := HC3.out
    clear HC3
    replace H := Option.bind_eq_some_iff.mp H
    obtain ⟨t139, A40, H⟩ := H
    replace H : (if t139 = true then (laws_FnStores.j0 k l0 l1 true) else ((laws_f6big.f l1).bind fun t140 => (laws_FnStores.j0 k l0 l1 t140))) = some r := H
    have A4 := Aside0.mk A40
    clear A40
    by_cases c5 : t139 = true
    · subst c5
      have H1 : (laws_FnStores.j0 k l0 l1 true) = some r := by rw [if_pos rfl] at H; exact H
      clear H
      have H := H1
      clear H1
      have H' := Aside0.mk H
      clear H
      go_wp2_with (first | ((with_reducible refine gate_callee (f := 24) rfl ?_); refine goesL_ (some 31) rfl rfl Try.func24 (by kernel_rfl) rfl #[.slice A0 l0.length c0] rfl (by (try simp only [List.map_toArray, List.map_cons, List.map_nil]); first | done | rfl | (simp only [List.length_drop, List.length_take]; rfl)) ?_; (with_reducible refine (laws_f6big.calls _ _ l0 true _ ?side1 ?side2 A4.out).mono ?_); (case side1 => repeat (first | exact (Kd.C_below HR0.out HB.out) | (with_reducible refine Kd.C_alloc ?_ _) | (with_reducible refine Kd.C_drewN ?_ _) | (with_reducible refine Kd.C_drew ?_))); (case side2 => exact HC0.out); rintro e w' ⟨rfl, ⟨nd, rfl⟩⟩; refine ⟨_, rfl, ?_⟩))
      go_meet
      case rel => exact ⟨_, (true), (by first | rfl | (simp; done) | (simp [*]; done)), H', ⟨by first | omega | exact Nat.le_refl _⟩, ⟨by repeat (first | (with_reducible first | exact HB.out | apply below_alloc | apply pw_below_drewN | apply below_drew1) | exact HB.out)⟩⟩
    · replace c5 := Bool.eq_false_iff.mpr c5
      subst c5
      have H1 : ((laws_f6big.f l1).bind fun t140 => (laws_FnStores.j0 k l0 l1 t140)) = some r := by rw [if_neg (show ¬ (false = true) by decide)] at H; exact H
      clear H
      have H := H1
      clear H1
      replace H := Option.bind_eq_some_iff.mp H
      obtain ⟨t140, A60, H⟩ := H
      replace H : (laws_FnStores.j0 k l0 l1 t140) = some r := H
      have A6 := Aside0.mk A60
      clear A60
      have H' := Aside0.mk H
      clear H
      go_wp2_with (first | ((with_reducible refine gate_callee (f := 24) rfl ?_); refine goesL_ (some 31) rfl rfl Try.func24 (by kernel_rfl) rfl #[.slice A0 l0.length c0] rfl (by (try simp only [List.map_toArray, List.map_cons, List.map_nil]); first | done | rfl | (simp only [List.length_drop, List.length_take]; rfl)) ?_; (with_reducible refine (laws_f6big.calls _ _ l0 false _ ?side1 ?side2 A4.out).mono ?_); (case side1 => repeat (first | exact (Kd.C_below HR0.out HB.out) | (with_reducible refine Kd.C_alloc ?_ _) | (with_reducible refine Kd.C_drewN ?_ _) | (with_reducible refine Kd.C_drew ?_))); (case side2 => exact HC0.out); rintro e w' ⟨rfl, ⟨nd, rfl⟩⟩; refine ⟨_, rfl, ?_⟩) | (go_at_call 24; (with_reducible refine (laws_f6big.calls _ _ l1 t140 _ ?side1 ?side2 A6.out).mono ?_); (case side1 => repeat (first | exact (Kd.C_below HR1.out (by repeat (first | (with_reducible first | exact HB.out | apply below_alloc | apply pw_below_drewN | apply below_drew1) | exact HB.out))) | (with_reducible refine Kd.C_alloc ?_ _) | (with_reducible refine Kd.C_drewN ?_ _) | (with_reducible refine Kd.C_drew ?_))); (case side2 => exact HC1.out); rintro e w' ⟨rfl, ⟨nd, rfl⟩⟩))
      go_meet
      case rel => exact ⟨_, (t140), (by first | rfl | (simp; done) | (simp [*]; done)), H', ⟨by first | omega | exact Nat.le_refl _⟩, ⟨by repeat (first | (with_reducible first | exact HB.out | apply below_alloc | apply pw_below_drewN | apply below_drew1) | exact HB.out)⟩⟩
  case rest =>
    clear HC3
    try clear c1
    try clear c2
    try clear p2
    try clear c5
    try clear c6
    obtain ⟨kq, x35_2, rfl, HA, HJ2, HB⟩ := hcut
    cases kq with
    | zero => exact absurd HA.out (by simp [laws_FnStores.j0])
    | succ kj2 =>
      have H := HA.out
      clear HA
      simp only [laws_FnStores.j0] at H
      by_cases c7 : x35_2 = true
      · subst c7
        have H1 : (some true) = some r := by rw [if_pos rfl] at H; exact H
        clear H
        have H := H1
        clear H1
        obtain rfl := Option.some.inj H
        go_wp2
        go_ret
        exact ⟨by first | rfl | (simp [errW_none, errW_some] <;> rfl) | (simp [*, errW_none, errW_some] <;> rfl), by repeat (first | (with_reducible first | exact HB.out | apply below_alloc | apply pw_below_drewN | apply below_drew1) | exact HB.out)⟩
      · replace c7 := Bool.eq_false_iff.mpr c7
        subst c7
        have H1 : ((spec_P6Pick.f l0 200).bind fun t141 => ((spec_P6Pick.f l1 100).bind fun t142 => ((spec_P6Pick.f l1 60).bind fun t143 => ((spec_P6Pick.f l0 5).bind fun t144 => (laws_FnStores.l0 kj2 l1 (wrap64 ((wrap64 (100 * t141)) + t142)) t143 t144 (wrap64 ((wrap64 (100 * t141)) + t142)) 0))))) = some r := by rw [if_neg (show ¬ (false = true) by decide)] at H; exact H
        clear H
        have H := H1
        clear H1
        replace H := Option.bind_eq_some_iff.mp H
        obtain ⟨t141, A80, H⟩ := H
        replace H : ((spec_P6Pick.f l1 100).bind fun t142 => ((spec_P6Pick.f l1 60).bind fun t143 => ((spec_P6Pick.f l0 5).bind fun t144 => (laws_FnStores.l0 kj2 l1 (wrap64 ((wrap64 (100 * t141)) + t142)) t143 t144 (wrap64 ((wrap64 (100 * t141)) + t142)) 0)))) = some r := H
        have A8 := Aside0.mk A80
        clear A80
        replace H := Option.bind_eq_some_iff.mp H
        obtain ⟨t142, A90, H⟩ := H
        replace H : ((spec_P6Pick.f l1 60).bind fun t143 => ((spec_P6Pick.f l0 5).bind fun t144 => (laws_FnStores.l0 kj2 l1 (wrap64 ((wrap64 (100 * t141)) + t142)) t143 t144 (wrap64 ((wrap64 (100 * t141)) + t142)) 0))) = some r := H
        have A9 := Aside0.mk A90
        clear A90
        replace H := Option.bind_eq_some_iff.mp H
        obtain ⟨t143, A100, H⟩ := H
        replace H : ((spec_P6Pick.f l0 5).bind fun t144 => (laws_FnStores.l0 kj2 l1 (wrap64 ((wrap64 (100 * t141)) + t142)) t143 t144 (wrap64 ((wrap64 (100 * t141)) + t142)) 0)) = some r := H
        have A10 := Aside0.mk A100
        clear A100
        replace H := Option.bind_eq_some_iff.mp H
        obtain ⟨t144, A110, H⟩ := H
        replace H : (laws_FnStores.l0 kj2 l1 (wrap64 ((wrap64 (100 * t141)) + t142)) t143 t144 (wrap64 ((wrap64 (100 * t141)) + t142)) 0) = some r := H
        have A11 := Aside0.mk A110
        clear A110
        have H' := Aside0.mk H
        clear H
        go_wp2_with (first | ((with_reducible refine gate_callee (f := 25) rfl ?_); refine goesL_ (some 37) rfl rfl Try.func25 (by kernel_rfl) rfl #[.slice A0 l0.length c0, .int .i64 200] rfl (by (try simp only [List.map_toArray, List.map_cons, List.map_nil]); first | done | rfl | (simp only [List.length_drop, List.length_take]; rfl)) ?_; (with_reducible refine (spec_P6Pick.calls _ _ l0 200 t141 _ ?side1 ?side2 A8.out).mono ?_); (case side1 => repeat (first | exact (Kd.C_below HR0.out HB.out) | (with_reducible refine Kd.C_alloc ?_ _) | (with_reducible refine Kd.C_drewN ?_ _) | (with_reducible refine Kd.C_drew ?_))); (case side2 => exact HC0.out); rintro e w12 ⟨rfl, hb⟩; refine ⟨_, rfl, ?_⟩; have n0_ := Aside0.mk (below_step (by repeat (first | (with_reducible first | exact HB.out | apply below_alloc | apply pw_below_drewN | apply below_drew1) | exact HB.out)) hb); clear HB; have HB := n0_; clear n0_; (try clear hb); (try clear hb2); (try clear hk); (try clear hi)) | ((with_reducible refine gate_callee (f := 25) rfl ?_); refine goesL_ (some 40) rfl rfl Try.func25 (by kernel_rfl) rfl #[.slice A1 l1.length c1, .int .i64 100] rfl (by (try simp only [List.map_toArray, List.map_cons, List.map_nil]); first | done | rfl | (simp only [List.length_drop, List.length_take]; rfl)) ?_; (with_reducible refine (spec_P6Pick.calls _ _ l1 100 t142 _ ?side1 ?side2 A9.out).mono ?_); (case side1 => repeat (first | exact (Kd.C_below HR1.out HB.out) | (with_reducible refine Kd.C_alloc ?_ _) | (with_reducible refine Kd.C_drewN ?_ _) | (with_reducible refine Kd.C_drew ?_))); (case side2 => exact HC1.out); rintro e w13 ⟨rfl, hb⟩; refine ⟨_, rfl, ?_⟩; have n0_ := Aside0.mk (below_step (by repeat (first | (with_reducible first | exact HB.out | apply below_alloc | apply pw_below_drewN | apply below_drew1) | exact HB.out)) hb); clear HB; have HB := n0_; clear n0_; (try clear hb); (try clear hb2); (try clear hk); (try clear hi)) | ((with_reducible refine gate_callee (f := 25) rfl ?_); refine goesL_ (some 43) rfl rfl Try.func25 (by kernel_rfl) rfl #[.slice A1 l1.length c1, .int .i64 60] rfl (by (try simp only [List.map_toArray, List.map_cons, List.map_nil]); first | done | rfl | (simp only [List.length_drop, List.length_take]; rfl)) ?_; (with_reducible refine (spec_P6Pick.calls _ _ l1 60 t143 _ ?side1 ?side2 A10.out).mono ?_); (case side1 => repeat (first | exact (Kd.C_below HR1.out HB.out) | (with_reducible refine Kd.C_alloc ?_ _) | (with_reducible refine Kd.C_drewN ?_ _) | (with_reducible refine Kd.C_drew ?_))); (case side2 => exact HC1.out); rintro e w14 ⟨rfl, hb⟩; refine ⟨_, rfl, ?_⟩; have n0_ := Aside0.mk (below_step (by repeat (first | (with_reducible first | exact HB.out | apply below_alloc | apply pw_below_drewN | apply below_drew1) | exact HB.out)) hb); clear HB; have HB := n0_; clear n0_; (try clear hb); (try clear hb2); (try clear hk); (try clear hi)) | ((with_reducible refine gate_callee (f := 25) rfl ?_); refine goesL_ (some 45) rfl rfl Try.func25 (by kernel_rfl) rfl #[.slice A0 l0.length c0, .int .i64 5] rfl (by (try simp only [List.map_toArray, List.map_cons, List.map_nil]); first | done | rfl | (simp only [List.length_drop, List.length_take]; rfl)) ?_; (with_reducible refine (spec_P6Pick.calls _ _ l0 5 t144 _ ?side1 ?side2 A11.out).mono ?_); (case side1 => repeat (first | exact (Kd.C_below HR0.out HB.out) | (with_reducible refine Kd.C_alloc ?_ _) | (with_reducible refine Kd.C_drewN ?_ _) | (with_reducible refine Kd.C_drew ?_))); (case side2 => exact HC0.out); rintro e w15 ⟨rfl, hb⟩; refine ⟨_, rfl, ?_⟩; have n0_ := Aside0.mk (below_step (by repeat (first | (with_reducible first | exact HB.out | apply below_alloc | apply pw_below_drewN | apply below_drew1) | exact HB.out)) hb); clear HB; have HB := n0_; clear n0_; (try clear hb); (try clear hb2); (try clear hk); (try clear hi)))
        go_loopg [8, 9] kj2 (fun kq v8 v9 w' => ∃ (x8_2 : Int) (x9_2 : Int), v8 = .int .i64 x8_2 ∧ v9 = .int .i64 x9_2 ∧ Aside0 (laws_FnStores.l0 kq l1 (wrap64 ((wrap64 (100 * t141)) + t142)) t143 t144 x8_2 x9_2 = some r) ∧ Aside0 (kq ≤ kj2) ∧ Aside0 (Below w.heap.size w w'))
        case atStart => exact ⟨(wrap64 ((wrap64 (100 * t141)) + t142)), (0), (by first | rfl | (simp; done) | (simp [*]; done)), (by first | rfl | (simp; done) | (simp [*]; done)), H', ⟨Nat.le_refl _⟩, ⟨by repeat (first | (with_reducible first | exact HB.out | apply below_alloc | apply pw_below_drewN | apply below_drew1) | exact HB.out)⟩⟩
        case round =>
          clear H'
          try clear c1
          try clear c2
          try clear p2
          try clear c5
          try clear c6
          try clear p6
          try clear c7
          try clear p2
          obtain ⟨x8_2, x9_2, rfl, rfl, HA, HK2, HB⟩ := hrel
          cases gk with
          | zero => exact absurd HA.out (by simp [laws_FnStores.l0])
          | succ k2 =>
            have H := HA.out
            clear HA
            simp only [laws_FnStores.l0] at H
            by_cases c16 : x9_2 ≤ 12
            · rw [if_pos c16] at H
              have c16b0 : decide (x9_2 ≤ 12) = true := decide_eq_true c16
              clear c16
              replace H := Option.bind_eq_some_iff.mp H
              obtain ⟨⟨t145, t146, t147⟩, A170, H⟩ := H
              replace H : ((spec_StoreAfter.f k2 (wrap64 ((wrap64 (100 * t141)) + t142)) t143 t144 x9_2).bind fun bt148 => (if t147 = bt148.2.2 then (if t147 = 0 then (if t145 = bt148.1 then (if t146 = bt148.2.1 then (if bt148.1 > x8_2 then (some false) else (if bt148.1 < 0 then (some false) else (if bt148.2.1 = (mx 0 (wrap64 (t143 - (wrap64 (t144 * x9_2))))) then (laws_FnStores.l0 k2 l1 (wrap64 ((wrap64 (100 * t141)) + t142)) t143 t144 bt148.1 (wrap64 (x9_2 + 1))) else (some false)))) else (some false)) else (some false)) else (some false)) else (some false))) = some r := H
              have A17 := Aside0.mk A170
              clear A170
              replace H := Option.bind_eq_some_iff.mp H
              obtain ⟨⟨t148, t149, t150⟩, A180, H⟩ := H
              replace H : (if t147 = t150 then (if t147 = 0 then (if t145 = t148 then (if t146 = t149 then (if t148 > x8_2 then (some false) else (if t148 < 0 then (some false) else (if t149 = (mx 0 (wrap64 (t143 - (wrap64 (t144 * x9_2))))) then (laws_FnStores.l0 k2 l1 (wrap64 ((wrap64 (100 * t141)) + t142)) t143 t144 t148 (wrap64 (x9_2 + 1))) else (some false)))) else (some false)) else (some false)) else (some false)) else (some false)) = some r := H
              have A18 := Aside0.mk A180
              clear A180
              by_cases c19 : t147 = t150
              · rw [if_pos c19] at H
                have c19b0 : (t147 == t150) = true := beq_iff_eq.mpr c19
                have c19b1 : (t147 != t150) = false := bne_eq_false_iff_eq.mpr c19
                clear c19
                by_cases c20 : t147 = 0
                · rw [if_pos c20] at H
                  have c20b0 : (t147 == 0) = true := beq_iff_eq.mpr c20
                  have c20b1 : (t147 != 0) = false := bne_eq_false_iff_eq.mpr c20
                  clear c20
                  by_cases c21 : t145 = t148
                  · rw [if_pos c21] at H
                    have c21b0 : (t145 == t148) = true := beq_iff_eq.mpr c21
                    have c21b1 : (t145 != t148) = false := bne_eq_false_iff_eq.mpr c21
                    clear c21
                    by_cases c22 : t146 = t149
                    · rw [if_pos c22] at H
                      have c22b0 : (t146 == t149) = true := beq_iff_eq.mpr c22
                      have c22b1 : (t146 != t149) = false := bne_eq_false_iff_eq.mpr c22
                      clear c22
                      by_cases c23 : t148 > x8_2
                      · rw [if_pos c23] at H
                        have c23b0 : decide (x8_2 < t148) = true := decide_eq_true c23
                        clear c23
                        obtain rfl := Option.some.inj H
                        go_wp2_with (first | ((with_reducible refine gate_callee (f := 16) rfl ?_); refine goesL_ (some 56) rfl rfl Try.func16 (by kernel_rfl) rfl #[.int .i64 (wrap64 ((wrap64 (100 * t141)) + t142)), .int .i64 t143, .int .i64 t144, .int .i64 x9_2] rfl (by (try simp only [List.map_toArray, List.map_cons, List.map_nil]); first | done | rfl | (simp only [List.length_drop, List.length_take]; rfl)) ?_; (with_reducible refine (impl_StoreAfter.calls k2 (wrap64 ((wrap64 (100 * t141)) + t142)) t143 t144 x9_2 t145 t146 t147 _ A17.out).mono ?_); rintro e w24 ⟨rfl, hb⟩; refine ⟨_, rfl, ?_⟩; have n0_ := Aside0.mk (below_step (by repeat (first | (with_reducible first | exact HB.out | apply below_alloc | apply pw_below_drewN | apply below_drew1) | exact HB.out)) hb); clear HB; have HB := n0_; clear n0_; (try clear hb); (try clear hb2); (try clear hk); (try clear hi)) | ((with_reducible refine gate_callee (f := 15) rfl ?_); refine goesL_ (some 65) rfl rfl Try.func15 (by kernel_rfl) rfl #[.int .i64 (wrap64 ((wrap64 (100 * t141)) + t142)), .int .i64 t143, .int .i64 t144, .int .i64 x9_2] rfl (by (try simp only [List.map_toArray, List.map_cons, List.map_nil]); first | done | rfl | (simp only [List.length_drop, List.length_take]; rfl)) ?_; (with_reducible refine (spec_StoreAfter.calls k2 (wrap64 ((wrap64 (100 * t141)) + t142)) t143 t144 x9_2 t148 t149 t150 _ A18.out).mono ?_); rintro e w' ⟨rfl, ⟨nd, rfl⟩⟩; refine ⟨_, rfl, ?_⟩))
                        go_ret
                        exact ⟨by first | rfl | (simp [errW_none, errW_some] <;> rfl) | (simp [*, errW_none, errW_some] <;> rfl), by repeat (first | (with_reducible first | exact HB.out | apply below_alloc | apply pw_below_drewN | apply below_drew1) | exact HB.out)⟩
                      · rw [if_neg c23] at H
                        have c23b0 : decide (x8_2 < t148) = false := decide_eq_false c23
                        clear c23
                        by_cases c25 : t148 < 0
                        · rw [if_pos c25] at H
                          have c25b0 : decide (t148 < 0) = true := decide_eq_true c25
                          clear c25
                          obtain rfl := Option.some.inj H
                          go_wp2_with (first | ((with_reducible refine gate_callee (f := 16) rfl ?_); refine goesL_ (some 56) rfl rfl Try.func16 (by kernel_rfl) rfl #[.int .i64 (wrap64 ((wrap64 (100 * t141)) + t142)), .int .i64 t143, .int .i64 t144, .int .i64 x9_2] rfl (by (try simp only [List.map_toArray, List.map_cons, List.map_nil]); first | done | rfl | (simp only [List.length_drop, List.length_take]; rfl)) ?_; (with_reducible refine (impl_StoreAfter.calls k2 (wrap64 ((wrap64 (100 * t141)) + t142)) t143 t144 x9_2 t145 t146 t147 _ A17.out).mono ?_); rintro e w26 ⟨rfl, hb⟩; refine ⟨_, rfl, ?_⟩; have n0_ := Aside0.mk (below_step (by repeat (first | (with_reducible first | exact HB.out | apply below_alloc | apply pw_below_drewN | apply below_drew1) | exact HB.out)) hb); clear HB; have HB := n0_; clear n0_; (try clear hb); (try clear hb2); (try clear hk); (try clear hi)) | ((with_reducible refine gate_callee (f := 15) rfl ?_); refine goesL_ (some 65) rfl rfl Try.func15 (by kernel_rfl) rfl #[.int .i64 (wrap64 ((wrap64 (100 * t141)) + t142)), .int .i64 t143, .int .i64 t144, .int .i64 x9_2] rfl (by (try simp only [List.map_toArray, List.map_cons, List.map_nil]); first | done | rfl | (simp only [List.length_drop, List.length_take]; rfl)) ?_; (with_reducible refine (spec_StoreAfter.calls k2 (wrap64 ((wrap64 (100 * t141)) + t142)) t143 t144 x9_2 t148 t149 t150 _ A18.out).mono ?_); rintro e w' ⟨rfl, ⟨nd, rfl⟩⟩; refine ⟨_, rfl, ?_⟩))
                          go_ret
                          exact ⟨by first | rfl | (simp [errW_none, errW_some] <;> rfl) | (simp [*, errW_none, errW_some] <;> rfl), by repeat (first | (with_reducible first | exact HB.out | apply below_alloc | apply pw_below_drewN | apply below_drew1) | exact HB.out)⟩
                        · rw [if_neg c25] at H
                          have c25b0 : decide (t148 < 0) = false := decide_eq_false c25
                          clear c25
                          obtain ⟨ji27, hji27⟩ : ∃ j_ : Int, (mx 0 (wrap64 (t143 - (wrap64 (t144 * x9_2))))) = j_ := ⟨_, rfl⟩
                          replace H : (if t149 = (ji27) then (laws_FnStores.l0 k2 l1 (wrap64 ((wrap64 (100 * t141)) + t142)) t143 t144 t148 (wrap64 (x9_2 + 1))) else (some false)) = some r := by first | (rw [hji27] at H; exact H) | (simp only [hji27] at H ⊢; exact H)
                          (try rw [hji27] at A17)
                          (try rw [hji27] at A18)
                          have hji27_ : (if 0 < (wrap64 (t143 - (wrap64 (t144 * x9_2)))) then (wrap64 (t143 - (wrap64 (t144 * x9_2)))) else 0) = ji27 := hji27
                          by_cases c28 : t149 = (ji27)
                          · rw [if_pos c28] at H
                            have c28b0 : (t149 == (ji27)) = true := beq_iff_eq.mpr c28
                            have c28b1 : (t149 != (ji27)) = false := bne_eq_false_iff_eq.mpr c28
                            clear c28
                            have H' := Aside0.mk H
                            clear H
                            go_wp2_with (first | ((with_reducible refine gate_callee (f := 16) rfl ?_); refine goesL_ (some 56) rfl rfl Try.func16 (by kernel_rfl) rfl #[.int .i64 (wrap64 ((wrap64 (100 * t141)) + t142)), .int .i64 t143, .int .i64 t144, .int .i64 x9_2] rfl (by (try simp only [List.map_toArray, List.map_cons, List.map_nil]); first | done | rfl | (simp only [List.length_drop, List.length_take]; rfl)) ?_; (with_reducible refine (impl_StoreAfter.calls k2 (wrap64 ((wrap64 (100 * t141)) + t142)) t143 t144 x9_2 t145 t146 t147 _ A17.out).mono ?_); rintro e w29 ⟨rfl, hb⟩; refine ⟨_, rfl, ?_⟩; have n0_ := Aside0.mk (below_step (by repeat (first | (with_reducible first | exact HB.out | apply below_alloc | apply pw_below_drewN | apply below_drew1) | exact HB.out)) hb); clear HB; have HB := n0_; clear n0_; (try clear hb); (try clear hb2); (try clear hk); (try clear hi)) | ((with_reducible refine gate_callee (f := 15) rfl ?_); refine goesL_ (some 65) rfl rfl Try.func15 (by kernel_rfl) rfl #[.int .i64 (wrap64 ((wrap64 (100 * t141)) + t142)), .int .i64 t143, .int .i64 t144, .int .i64 x9_2] rfl (by (try simp only [List.map_toArray, List.map_cons, List.map_nil]); first | done | rfl | (simp only [List.length_drop, List.length_take]; rfl)) ?_; (with_reducible refine (spec_StoreAfter.calls k2 (wrap64 ((wrap64 (100 * t141)) + t142)) t143 t144 x9_2 t148 t149 t150 _ A18.out).mono ?_); rintro e w' ⟨rfl, ⟨nd, rfl⟩⟩; refine ⟨_, rfl, ?_⟩))
                            go_roundg k2
                            case measure => have := HJ2.out; have := HK2.out; omega
                            case rel => exact ⟨(t148), (wrap64 (x9_2 + 1)), (by first | rfl | (simp; done) | (simp [*]; done)), (by first | rfl | (simp; done) | (simp [*]; done)), H', ⟨by have := HJ2.out; have := HK2.out; omega⟩, ⟨by repeat (first | (with_reducible first | exact HB.out | apply below_alloc | apply pw_below_drewN | apply below_drew1) | exact HB.out)⟩⟩
                          · rw [if_neg c28] at H
                            have c28b0 : (t149 == (ji27)) = false := beq_eq_false_iff_ne.mpr c28
                            have c28b1 : (t149 != (ji27)) = true := bne_iff_ne.mpr c28
                            obtain rfl := Option.some.inj H
                            go_wp2_with (first | ((with_reducible refine gate_callee (f := 16) rfl ?_); refine goesL_ (some 56) rfl rfl Try.func16 (by kernel_rfl) rfl #[.int .i64 (wrap64 ((wrap64 (100 * t141)) + t142)), .int .i64 t143, .int .i64 t144, .int .i64 x9_2] rfl (by (try simp only [List.map_toArray, List.map_cons, List.map_nil]); first | done | rfl | (simp only [List.length_drop, List.length_take]; rfl)) ?_; (with_reducible refine (impl_StoreAfter.calls k2 (wrap64 ((wrap64 (100 * t141)) + t142)) t143 t144 x9_2 t145 t146 t147 _ A17.out).mono ?_); rintro e w30 ⟨rfl, hb⟩; refine ⟨_, rfl, ?_⟩; have n0_ := Aside0.mk (below_step (by repeat (first | (with_reducible first | exact HB.out | apply below_alloc | apply pw_below_drewN | apply below_drew1) | exact HB.out)) hb); clear HB; have HB := n0_; clear n0_; (try clear hb); (try clear hb2); (try clear hk); (try clear hi)) | ((with_reducible refine gate_callee (f := 15) rfl ?_); refine goesL_ (some 65) rfl rfl Try.func15 (by kernel_rfl) rfl #[.int .i64 (wrap64 ((wrap64 (100 * t141)) + t142)), .int .i64 t143, .int .i64 t144, .int .i64 x9_2] rfl (by (try simp only [List.map_toArray, List.map_cons, List.map_nil]); first | done | rfl | (simp only [List.length_drop, List.length_take]; rfl)) ?_; (with_reducible refine (spec_StoreAfter.calls k2 (wrap64 ((wrap64 (100 * t141)) + t142)) t143 t144 x9_2 t148 t149 t150 _ A18.out).mono ?_); rintro e w' ⟨rfl, ⟨nd, rfl⟩⟩; refine ⟨_, rfl, ?_⟩))
                            go_ret
                            exact ⟨by first | rfl | (simp [errW_none, errW_some] <;> rfl) | (simp only [← hji27]; first | rfl | (simp [errW_none, errW_some] <;> rfl)) | (simp [*, errW_none, errW_some] <;> rfl), by repeat (first | (with_reducible first | exact HB.out | apply below_alloc | apply pw_below_drewN | apply below_drew1) | exact HB.out)⟩
                    · rw [if_neg c22] at H
                      have c22b0 : (t146 == t149) = false := beq_eq_false_iff_ne.mpr c22
                      have c22b1 : (t146 != t149) = true := bne_iff_ne.mpr c22
                      obtain rfl := Option.some.inj H
                      go_wp2_with (first | ((with_reducible refine gate_callee (f := 16) rfl ?_); refine goesL_ (some 56) rfl rfl Try.func16 (by kernel_rfl) rfl #[.int .i64 (wrap64 ((wrap64 (100 * t141)) + t142)), .int .i64 t143, .int .i64 t144, .int .i64 x9_2] rfl (by (try simp only [List.map_toArray, List.map_cons, List.map_nil]); first | done | rfl | (simp only [List.length_drop, List.length_take]; rfl)) ?_; (with_reducible refine (impl_StoreAfter.calls k2 (wrap64 ((wrap64 (100 * t141)) + t142)) t143 t144 x9_2 t145 t146 t147 _ A17.out).mono ?_); rintro e w31 ⟨rfl, hb⟩; refine ⟨_, rfl, ?_⟩; have n0_ := Aside0.mk (below_step (by repeat (first | (with_reducible first | exact HB.out | apply below_alloc | apply pw_below_drewN | apply below_drew1) | exact HB.out)) hb); clear HB; have HB := n0_; clear n0_; (try clear hb); (try clear hb2); (try clear hk); (try clear hi)) | ((with_reducible refine gate_callee (f := 15) rfl ?_); refine goesL_ (some 65) rfl rfl Try.func15 (by kernel_rfl) rfl #[.int .i64 (wrap64 ((wrap64 (100 * t141)) + t142)), .int .i64 t143, .int .i64 t144, .int .i64 x9_2] rfl (by (try simp only [List.map_toArray, List.map_cons, List.map_nil]); first | done | rfl | (simp only [List.length_drop, List.length_take]; rfl)) ?_; (with_reducible refine (spec_StoreAfter.calls k2 (wrap64 ((wrap64 (100 * t141)) + t142)) t143 t144 x9_2 t148 t149 t150 _ A18.out).mono ?_); rintro e w' ⟨rfl, ⟨nd, rfl⟩⟩; refine ⟨_, rfl, ?_⟩))
                      go_ret
                      exact ⟨by first | rfl | (simp [errW_none, errW_some] <;> rfl) | (simp [*, errW_none, errW_some] <;> rfl), by repeat (first | (with_reducible first | exact HB.out | apply below_alloc | apply pw_below_drewN | apply below_drew1) | exact HB.out)⟩
                  · rw [if_neg c21] at H
                    have c21b0 : (t145 == t148) = false := beq_eq_false_iff_ne.mpr c21
                    have c21b1 : (t145 != t148) = true := bne_iff_ne.mpr c21
                    obtain rfl := Option.some.inj H
                    go_wp2_with (first | ((with_reducible refine gate_callee (f := 16) rfl ?_); refine goesL_ (some 56) rfl rfl Try.func16 (by kernel_rfl) rfl #[.int .i64 (wrap64 ((wrap64 (100 * t141)) + t142)), .int .i64 t143, .int .i64 t144, .int .i64 x9_2] rfl (by (try simp only [List.map_toArray, List.map_cons, List.map_nil]); first | done | rfl | (simp only [List.length_drop, List.length_take]; rfl)) ?_; (with_reducible refine (impl_StoreAfter.calls k2 (wrap64 ((wrap64 (100 * t141)) + t142)) t143 t144 x9_2 t145 t146 t147 _ A17.out).mono ?_); rintro e w32 ⟨rfl, hb⟩; refine ⟨_, rfl, ?_⟩; have n0_ := Aside0.mk (below_step (by repeat (first | (with_reducible first | exact HB.out | apply below_alloc | apply pw_below_drewN | apply below_drew1) | exact HB.out)) hb); clear HB; have HB := n0_; clear n0_; (try clear hb); (try clear hb2); (try clear hk); (try clear hi)) | ((with_reducible refine gate_callee (f := 15) rfl ?_); refine goesL_ (some 65) rfl rfl Try.func15 (by kernel_rfl) rfl #[.int .i64 (wrap64 ((wrap64 (100 * t141)) + t142)), .int .i64 t143, .int .i64 t144, .int .i64 x9_2] rfl (by (try simp only [List.map_toArray, List.map_cons, List.map_nil]); first | done | rfl | (simp only [List.length_drop, List.length_take]; rfl)) ?_; (with_reducible refine (spec_StoreAfter.calls k2 (wrap64 ((wrap64 (100 * t141)) + t142)) t143 t144 x9_2 t148 t149 t150 _ A18.out).mono ?_); rintro e w' ⟨rfl, ⟨nd, rfl⟩⟩; refine ⟨_, rfl, ?_⟩))
                    go_ret
                    exact ⟨by first | rfl | (simp [errW_none, errW_some] <;> rfl) | (simp [*, errW_none, errW_some] <;> rfl), by repeat (first | (with_reducible first | exact HB.out | apply below_alloc | apply pw_below_drewN | apply below_drew1) | exact HB.out)⟩
                · rw [if_neg c20] at H
                  have c20b0 : (t147 == 0) = false := beq_eq_false_iff_ne.mpr c20
                  have c20b1 : (t147 != 0) = true := bne_iff_ne.mpr c20
                  obtain rfl := Option.some.inj H
                  go_wp2_with (first | ((with_reducible refine gate_callee (f := 16) rfl ?_); refine goesL_ (some 56) rfl rfl Try.func16 (by kernel_rfl) rfl #[.int .i64 (wrap64 ((wrap64 (100 * t141)) + t142)), .int .i64 t143, .int .i64 t144, .int .i64 x9_2] rfl (by (try simp only [List.map_toArray, List.map_cons, List.map_nil]); first | done | rfl | (simp only [List.length_drop, List.length_take]; rfl)) ?_; (with_reducible refine (impl_StoreAfter.calls k2 (wrap64 ((wrap64 (100 * t141)) + t142)) t143 t144 x9_2 t145 t146 t147 _ A17.out).mono ?_); rintro e w33 ⟨rfl, hb⟩; refine ⟨_, rfl, ?_⟩; have n0_ := Aside0.mk (below_step (by repeat (first | (with_reducible first | exact HB.out | apply below_alloc | apply pw_below_drewN | apply below_drew1) | exact HB.out)) hb); clear HB; have HB := n0_; clear n0_; (try clear hb); (try clear hb2); (try clear hk); (try clear hi)) | ((with_reducible refine gate_callee (f := 15) rfl ?_); refine goesL_ (some 65) rfl rfl Try.func15 (by kernel_rfl) rfl #[.int .i64 (wrap64 ((wrap64 (100 * t141)) + t142)), .int .i64 t143, .int .i64 t144, .int .i64 x9_2] rfl (by (try simp only [List.map_toArray, List.map_cons, List.map_nil]); first | done | rfl | (simp only [List.length_drop, List.length_take]; rfl)) ?_; (with_reducible refine (spec_StoreAfter.calls k2 (wrap64 ((wrap64 (100 * t141)) + t142)) t143 t144 x9_2 t148 t149 t150 _ A18.out).mono ?_); rintro e w' ⟨rfl, ⟨nd, rfl⟩⟩; refine ⟨_, rfl, ?_⟩))
                  go_ret
                  exact ⟨by first | rfl | (simp [errW_none, errW_some] <;> rfl) | (simp [*, errW_none, errW_some] <;> rfl), by repeat (first | (with_reducible first | exact HB.out | apply below_alloc | apply pw_below_drewN | apply below_drew1) | exact HB.out)⟩
              · rw [if_neg c19] at H
                have c19b0 : (t147 == t150) = false := beq_eq_false_iff_ne.mpr c19
                have c19b1 : (t147 != t150) = true := bne_iff_ne.mpr c19
                obtain rfl := Option.some.inj H
                go_wp2_with (first | ((with_reducible refine gate_callee (f := 16) rfl ?_); refine goesL_ (some 56) rfl rfl Try.func16 (by kernel_rfl) rfl #[.int .i64 (wrap64 ((wrap64 (100 * t141)) + t142)), .int .i64 t143, .int .i64 t144, .int .i64 x9_2] rfl (by (try simp only [List.map_toArray, List.map_cons, List.map_nil]); first | done | rfl | (simp only [List.length_drop, List.length_take]; rfl)) ?_; (with_reducible refine (impl_StoreAfter.calls k2 (wrap64 ((wrap64 (100 * t141)) + t142)) t143 t144 x9_2 t145 t146 t147 _ A17.out).mono ?_); rintro e w34 ⟨rfl, hb⟩; refine ⟨_, rfl, ?_⟩; have n0_ := Aside0.mk (below_step (by repeat (first | (with_reducible first | exact HB.out | apply below_alloc | apply pw_below_drewN | apply below_drew1) | exact HB.out)) hb); clear HB; have HB := n0_; clear n0_; (try clear hb); (try clear hb2); (try clear hk); (try clear hi)) | ((with_reducible refine gate_callee (f := 15) rfl ?_); refine goesL_ (some 65) rfl rfl Try.func15 (by kernel_rfl) rfl #[.int .i64 (wrap64 ((wrap64 (100 * t141)) + t142)), .int .i64 t143, .int .i64 t144, .int .i64 x9_2] rfl (by (try simp only [List.map_toArray, List.map_cons, List.map_nil]); first | done | rfl | (simp only [List.length_drop, List.length_take]; rfl)) ?_; (with_reducible refine (spec_StoreAfter.calls k2 (wrap64 ((wrap64 (100 * t141)) + t142)) t143 t144 x9_2 t148 t149 t150 _ A18.out).mono ?_); rintro e w' ⟨rfl, ⟨nd, rfl⟩⟩; refine ⟨_, rfl, ?_⟩))
                go_ret
                exact ⟨by first | rfl | (simp [errW_none, errW_some] <;> rfl) | (simp [*, errW_none, errW_some] <;> rfl), by repeat (first | (with_reducible first | exact HB.out | apply below_alloc | apply pw_below_drewN | apply below_drew1) | exact HB.out)⟩
            · rw [if_neg c16] at H
              have c16b0 : decide (x9_2 ≤ 12) = false := decide_eq_false c16
              clear c16
              replace H := Option.bind_eq_some_iff.mp H
              obtain ⟨t151, A350, H⟩ := H
              replace H : ((impl_DaysOfStore.f k2 (wrap64 ((wrap64 (100 * t141)) + t142)) t143 t144 (wrap64 (1 + (wrap64 (t151 * 100))))).bind fun bt152 => ((spec_DaysOfStore.f k2 (wrap64 ((wrap64 (100 * t141)) + t142)) t143 t144 (wrap64 (1 + (wrap64 (t151 * 100))))).bind fun bt154 => (if bt152.2 = bt154.2 then (laws_FnStores.j2 k2 (wrap64 ((wrap64 (100 * t141)) + t142)) t143 t144 (wrap64 (1 + (wrap64 (t151 * 100)))) bt152.2 bt154.1 (bt152.1 != bt154.1)) else (laws_FnStores.j2 k2 (wrap64 ((wrap64 (100 * t141)) + t142)) t143 t144 (wrap64 (1 + (wrap64 (t151 * 100)))) bt152.2 bt154.1 true)))) = some r := H
              have A35 := Aside0.mk A350
              clear A350
              replace H := Option.bind_eq_some_iff.mp H
              obtain ⟨⟨t152, t153⟩, A360, H⟩ := H
              replace H : ((spec_DaysOfStore.f k2 (wrap64 ((wrap64 (100 * t141)) + t142)) t143 t144 (wrap64 (1 + (wrap64 (t151 * 100))))).bind fun bt154 => (if t153 = bt154.2 then (laws_FnStores.j2 k2 (wrap64 ((wrap64 (100 * t141)) + t142)) t143 t144 (wrap64 (1 + (wrap64 (t151 * 100)))) t153 bt154.1 (t152 != bt154.1)) else (laws_FnStores.j2 k2 (wrap64 ((wrap64 (100 * t141)) + t142)) t143 t144 (wrap64 (1 + (wrap64 (t151 * 100)))) t153 bt154.1 true))) = some r := H
              have A36 := Aside0.mk A360
              clear A360
              replace H := Option.bind_eq_some_iff.mp H
              obtain ⟨⟨t154, t155⟩, A370, H⟩ := H
              replace H : (if t153 = t155 then (laws_FnStores.j2 k2 (wrap64 ((wrap64 (100 * t141)) + t142)) t143 t144 (wrap64 (1 + (wrap64 (t151 * 100)))) t153 t154 (t152 != t154)) else (laws_FnStores.j2 k2 (wrap64 ((wrap64 (100 * t141)) + t142)) t143 t144 (wrap64 (1 + (wrap64 (t151 * 100)))) t153 t154 true)) = some r := H
              have A37 := Aside0.mk A370
              clear A370
              have HC38 := Aside0.mk H
              clear H
              go_upto_region 18 with (first | ((with_reducible refine gate_callee (f := 25) rfl ?_); refine goesL_ (some 107) rfl rfl Try.func25 (by kernel_rfl) rfl #[.slice A1 l1.length c1, .int .i64 200] rfl (by (try simp only [List.map_toArray, List.map_cons, List.map_nil]); first | done | rfl | (simp only [List.length_drop, List.length_take]; rfl)) ?_; (with_reducible refine (spec_P6Pick.calls _ _ l1 200 t151 _ ?side1 ?side2 A35.out).mono ?_); (case side1 => repeat (first | exact (Kd.C_below HR1.out HB.out) | (with_reducible refine Kd.C_alloc ?_ _) | (with_reducible refine Kd.C_drewN ?_ _) | (with_reducible refine Kd.C_drew ?_))); (case side2 => exact HC1.out); rintro e w39 ⟨rfl, hb⟩; refine ⟨_, rfl, ?_⟩; have n0_ := Aside0.mk (below_step (by repeat (first | (with_reducible first | exact HB.out | apply below_alloc | apply pw_below_drewN | apply below_drew1) | exact HB.out)) hb); clear HB; have HB := n0_; clear n0_; (try clear hb); (try clear hb2); (try clear hk); (try clear hi)) | ((with_reducible refine gate_callee (f := 18) rfl ?_); refine goesL_ (some 115) rfl rfl Try.func18 (by kernel_rfl) rfl #[.int .i64 (wrap64 ((wrap64 (100 * t141)) + t142)), .int .i64 t143, .int .i64 t144, .int .i64 (wrap64 (1 + (wrap64 (t151 * 100))))] rfl (by (try simp only [List.map_toArray, List.map_cons, List.map_nil]); first | done | rfl | (simp only [List.length_drop, List.length_take]; rfl)) ?_; (with_reducible refine (impl_DaysOfStore.calls k2 (wrap64 ((wrap64 (100 * t141)) + t142)) t143 t144 (wrap64 (1 + (wrap64 (t151 * 100)))) t152 t153 _ A36.out).mono ?_); rintro e w40 ⟨rfl, hb⟩; refine ⟨_, rfl, ?_⟩; have n0_ := Aside0.mk (below_step (by repeat (first | (with_reducible first | exact HB.out | apply below_alloc | apply pw_below_drewN | apply below_drew1) | exact HB.out)) hb); clear HB; have HB := n0_; clear n0_; (try clear hb); (try clear hb2); (try clear hk); (try clear hi)) | ((with_reducible refine gate_callee (f := 17) rfl ?_); refine goesL_ (some 123) rfl rfl Try.func17 (by kernel_rfl) rfl #[.int .i64 (wrap64 ((wrap64 (100 * t141)) + t142)), .int .i64 t143, .int .i64 t144, .int .i64 (wrap64 (1 + (wrap64 (t151 * 100))))] rfl (by (try simp only [List.map_toArray, List.map_cons, List.map_nil]); first | done | rfl | (simp only [List.length_drop, List.length_take]; rfl)) ?_; (with_reducible refine (spec_DaysOfStore.calls k2 (wrap64 ((wrap64 (100 * t141)) + t142)) t143 t144 (wrap64 (1 + (wrap64 (t151 * 100)))) t154 t155 _ A37.out).mono ?_); rintro e w' ⟨rfl, ⟨nd, rfl⟩⟩; refine ⟨_, rfl, ?_⟩))
              (try simp only [Act.put, List.setIfInBounds_toArray, List.set_cons_zero, List.set_cons_succ])
              go_cut [133] (fun v133 wc => ∃ (kq : Nat) (x133_37 : Bool), v133 = .bool x133_37 ∧ Aside0 (laws_FnStores.j2 kq (wrap64 ((wrap64 (100 * t141)) + t142)) t143 t144 (wrap64 (1 + (wrap64 (t151 * 100)))) t153 t154 x133_37 = some r) ∧ Aside0 (kq ≤ k2) ∧ Aside0 (Below w.heap.size w wc))
              case first =>
                have H := HC38.out
                clear HC38
                by_cases c41 : t153 = t155
                · rw [if_pos c41] at H
                  have c41b0 : (t153 == t155) = true := beq_iff_eq.mpr c41
                  have c41b1 : (t153 != t155) = false := bne_eq_false_iff_eq.mpr c41
                  clear c41
                  (first | rw [c41b0] | (simp only [i64_w, i32_w]; rw [c41b0]) | skip)
                  have H' := Aside0.mk H
                  clear H
                  go_wp2
                  go_meet
                  case rel => exact ⟨_, ((t152 != t154)), (by first | rfl | (simp; done) | (simp [*]; done)), H', ⟨by have := HJ2.out; have := HK2.out; first | omega | exact Nat.le_refl _⟩, ⟨by repeat (first | (with_reducible first | exact HB.out | apply below_alloc | apply pw_below_drewN | apply below_drew1) | exact HB.out)⟩⟩
                · rw [if_neg c41] at H
                  have c41b0 : (t153 == t155) = false := beq_eq_false_iff_ne.mpr c41
                  have c41b1 : (t153 != t155) = true := bne_iff_ne.mpr c41
                  (first | rw [c41b0] | (simp only [i64_w, i32_w]; rw [c41b0]) | skip)
                  have H' := Aside0.mk H
                  clear H
                  go_wp2
                  go_meet
                  case rel => exact ⟨_, (true), (by first | rfl | (simp; done) | (simp [*]; done)), H', ⟨by have := HJ2.out; have := HK2.out; first | omega | exact Nat.le_refl _⟩, ⟨by repeat (first | (with_reducible first | exact HB.out | apply below_alloc | apply pw_below_drewN | apply below_drew1) | exact HB.out)⟩⟩
              case rest =>
                clear HC38
                try clear c1
                try clear c2
                try clear p2
                try clear c4
                try clear c5
                try clear c6
                try clear p6
                try clear c7
                try clear c15
                try clear c16
                try clear c16b0
                try clear c17
                try clear c18
                try clear c19
                try clear c19b0
                try clear c19b1
                try clear c20
                try clear c20b0
                try clear c20b1
                try clear c21
                try clear c21b0
                try clear c21b1
                try clear c22
                try clear c22b0
                try clear c22b1
                try clear c23
                try clear c23b0
                try clear c24
                try clear c25
                try clear c25b0
                try clear c28
                try clear c28b0
                try clear c28b1
                try clear c41
                try clear c41b0
                try clear c41b1
                try clear p2
                try clear p6
                obtain ⟨kq, x133_37, rfl, HA, HJ37, HB⟩ := hcut
                cases kq with
                | zero => exact absurd HA.out (by simp [laws_FnStores.j2])
                | succ kj37 =>
                  have H := HA.out
                  clear HA
                  simp only [laws_FnStores.j2] at H
                  by_cases c42 : x133_37 = true
                  · subst c42
                    have H1 : (some false) = some r := by rw [if_pos rfl] at H; exact H
                    clear H
                    have H := H1
                    clear H1
                    obtain rfl := Option.some.inj H
                    go_wp2
                    go_ret
                    exact ⟨by first | rfl | (simp [errW_none, errW_some] <;> rfl) | (simp [*, errW_none, errW_some] <;> rfl), by repeat (first | (with_reducible first | exact HB.out | apply below_alloc | apply pw_below_drewN | apply below_drew1) | exact HB.out)⟩
                  · replace c42 := Bool.eq_false_iff.mpr c42
                    subst c42
                    have H1 : (if t153 = 0 then ((impl_StoreAfter.f kj37 (wrap64 ((wrap64 (100 * t141)) + t142)) t143 t144 t154).bind fun bt159 => (if bt159.2.2 = 0 then (laws_FnStores.j3 kj37 (wrap64 ((wrap64 (100 * t141)) + t142)) t143 t144 (wrap64 (1 + (wrap64 (t151 * 100)))) t154 (decide (bt159.1 ≥ (wrap64 (1 + (wrap64 (t151 * 100))))))) else (laws_FnStores.j3 kj37 (wrap64 ((wrap64 (100 * t141)) + t142)) t143 t144 (wrap64 (1 + (wrap64 (t151 * 100)))) t154 true))) else ((impl_StoreAfter.f kj37 (wrap64 ((wrap64 (100 * t141)) + t142)) t143 t144 20).bind fun bt156 => (if t153 = 6 then (if bt156.2.2 = 0 then (some (decide (bt156.1 ≥ (wrap64 (1 + (wrap64 (t151 * 100))))))) else (some false)) else (some false)))) = some r := by rw [if_neg (show ¬ (false = true) by decide)] at H; exact H
                    clear H
                    have H := H1
                    clear H1
                    by_cases c43 : t153 = 0
                    · rw [if_pos c43] at H
                      have c43b0 : (t153 == 0) = true := beq_iff_eq.mpr c43
                      have c43b1 : (t153 != 0) = false := bne_eq_false_iff_eq.mpr c43
                      clear c43
                      replace H := Option.bind_eq_some_iff.mp H
                      obtain ⟨⟨t159, t160, t161⟩, A440, H⟩ := H
                      replace H : (if t161 = 0 then (laws_FnStores.j3 kj37 (wrap64 ((wrap64 (100 * t141)) + t142)) t143 t144 (wrap64 (1 + (wrap64 (t151 * 100)))) t154 (decide (t159 ≥ (wrap64 (1 + (wrap64 (t151 * 100))))))) else (laws_FnStores.j3 kj37 (wrap64 ((wrap64 (100 * t141)) + t142)) t143 t144 (wrap64 (1 + (wrap64 (t151 * 100)))) t154 true)) = some r := H
                      have A44 := Aside0.mk A440
                      clear A440
                      have HC45 := Aside0.mk H
                      clear H
                      go_upto_region 24 with (first | ((with_reducible refine gate_callee (f := 16) rfl ?_); refine goesL_ (some 160) rfl rfl Try.func16 (by kernel_rfl) rfl #[.int .i64 (wrap64 ((wrap64 (100 * t141)) + t142)), .int .i64 t143, .int .i64 t144, .int .i64 t154] rfl (by (try simp only [List.map_toArray, List.map_cons, List.map_nil]); first | done | rfl | (simp only [List.length_drop, List.length_take]; rfl)) ?_; (with_reducible refine (impl_StoreAfter.calls kj37 (wrap64 ((wrap64 (100 * t141)) + t142)) t143 t144 t154 t159 t160 t161 _ A44.out).mono ?_); rintro e w46 ⟨rfl, hb⟩; refine ⟨_, rfl, ?_⟩; have n0_ := Aside0.mk (below_step (by repeat (first | (with_reducible first | exact HB.out | apply below_alloc | apply pw_below_drewN | apply below_drew1) | exact HB.out)) hb); clear HB; have HB := n0_; clear n0_; (try clear hb); (try clear hb2); (try clear hk); (try clear hi)))
                      (try simp only [Act.put, List.setIfInBounds_toArray, List.set_cons_zero, List.set_cons_succ])
                      go_cut [170] (fun v170 wc => ∃ (kq : Nat) (x170_44 : Bool), v170 = .bool x170_44 ∧ Aside0 (laws_FnStores.j3 kq (wrap64 ((wrap64 (100 * t141)) + t142)) t143 t144 (wrap64 (1 + (wrap64 (t151 * 100)))) t154 x170_44 = some r) ∧ Aside0 (kq ≤ kj37) ∧ Aside0 (Below w.heap.size w wc))
                      case first =>
                        have H := HC45.out
                        clear HC45
                        by_cases c47 : t161 = 0
                        · rw [if_pos c47] at H
                          have c47b0 : (t161 == 0) = true := beq_iff_eq.mpr c47
                          have c47b1 : (t161 != 0) = false := bne_eq_false_iff_eq.mpr c47
                          clear c47
                          (first | rw [c47b0] | (simp only [i64_w, i32_w]; rw [c47b0]) | skip)
                          have H' := Aside0.mk H
                          clear H
                          go_wp2
                          go_meet
                          case rel => exact ⟨_, (decide (t159 ≥ (wrap64 (1 + (wrap64 (t151 * 100)))))), (by first | rfl | (simp; done) | (simp [*]; done)), H', ⟨by have := HJ2.out; have := HK2.out; have := HJ37.out; first | omega | exact Nat.le_refl _⟩, ⟨by repeat (first | (with_reducible first | exact HB.out | apply below_alloc | apply pw_below_drewN | apply below_drew1) | exact HB.out)⟩⟩
                        · rw [if_neg c47] at H
                          have c47b0 : (t161 == 0) = false := beq_eq_false_iff_ne.mpr c47
                          have c47b1 : (t161 != 0) = true := bne_iff_ne.mpr c47
                          (first | rw [c47b0] | (simp only [i64_w, i32_w]; rw [c47b0]) | skip)
                          have H' := Aside0.mk H
                          clear H
                          go_wp2
                          go_meet
                          case rel => exact ⟨_, (true), (by first | rfl | (simp; done) | (simp [*]; done)), H', ⟨by have := HJ2.out; have := HK2.out; have := HJ37.out; first | omega | exact Nat.le_refl _⟩, ⟨by repeat (first | (with_reducible first | exact HB.out | apply below_alloc | apply pw_below_drewN | apply below_drew1) | exact HB.out)⟩⟩
                      case rest =>
                        clear HC45
                        try clear c1
                        try clear c2
                        try clear p2
                        try clear c4
                        try clear c5
                        try clear c6
                        try clear p6
                        try clear c7
                        try clear c15
                        try clear c16
                        try clear c16b0
                        try clear c17
                        try clear c18
                        try clear c19
                        try clear c19b0
                        try clear c19b1
                        try clear c20
                        try clear c20b0
                        try clear c20b1
                        try clear c21
                        try clear c21b0
                        try clear c21b1
                        try clear c22
                        try clear c22b0
                        try clear c22b1
                        try clear c23
                        try clear c23b0
                        try clear c24
                        try clear c25
                        try clear c25b0
                        try clear c28
                        try clear c28b0
                        try clear c28b1
                        try clear c41
                        try clear c41b0
                        try clear c41b1
                        try clear c42
                        try clear c43
                        try clear c43b0
                        try clear c43b1
                        try clear c47
                        try clear c47b0
                        try clear c47b1
                        try clear p2
                        try clear p6
                        obtain ⟨kq, x170_44, rfl, HA, HJ44, HB⟩ := hcut
                        cases kq with
                        | zero => exact absurd HA.out (by simp [laws_FnStores.j3])
                        | succ kj44 =>
                          have H := HA.out
                          clear HA
                          simp only [laws_FnStores.j3] at H
                          by_cases c48 : x170_44 = true
                          · subst c48
                            have H1 : (some false) = some r := by rw [if_pos rfl] at H; exact H
                            clear H
                            have H := H1
                            clear H1
                            obtain rfl := Option.some.inj H
                            go_wp2
                            go_ret
                            exact ⟨by first | rfl | (simp [errW_none, errW_some] <;> rfl) | (simp [*, errW_none, errW_some] <;> rfl), by repeat (first | (with_reducible first | exact HB.out | apply below_alloc | apply pw_below_drewN | apply below_drew1) | exact HB.out)⟩
                          · replace c48 := Bool.eq_false_iff.mpr c48
                            subst c48
                            have H1 : (if t154 = 0 then (some true) else ((impl_StoreAfter.f kj44 (wrap64 ((wrap64 (100 * t141)) + t142)) t143 t144 (wrap64 (t154 - 1))).bind fun bt162 => (if bt162.2.2 = 0 then (some (decide (bt162.1 ≥ (wrap64 (1 + (wrap64 (t151 * 100))))))) else (some false)))) = some r := by rw [if_neg (show ¬ (false = true) by decide)] at H; exact H
                            clear H
                            have H := H1
                            clear H1
                            by_cases c49 : t154 = 0
                            · rw [if_pos c49] at H
                              have c49b0 : (t154 == 0) = true := beq_iff_eq.mpr c49
                              have c49b1 : (t154 != 0) = false := bne_eq_false_iff_eq.mpr c49
                              clear c49
                              obtain rfl := Option.some.inj H
                              go_wp2
                              go_ret
                              exact ⟨by first | rfl | (simp [errW_none, errW_some] <;> rfl) | (simp [*, errW_none, errW_some] <;> rfl), by repeat (first | (with_reducible first | exact HB.out | apply below_alloc | apply pw_below_drewN | apply below_drew1) | exact HB.out)⟩
                            · rw [if_neg c49] at H
                              have c49b0 : (t154 == 0) = false := beq_eq_false_iff_ne.mpr c49
                              have c49b1 : (t154 != 0) = true := bne_iff_ne.mpr c49
                              replace H := Option.bind_eq_some_iff.mp H
                              obtain ⟨⟨t162, t163, t164⟩, A500, H⟩ := H
                              replace H : (if t164 = 0 then (some (decide (t162 ≥ (wrap64 (1 + (wrap64 (t151 * 100))))))) else (some false)) = some r := H
                              have A50 := Aside0.mk A500
                              clear A500
                              by_cases c51 : t164 = 0
                              · rw [if_pos c51] at H
                                have c51b0 : (t164 == 0) = true := beq_iff_eq.mpr c51
                                have c51b1 : (t164 != 0) = false := bne_eq_false_iff_eq.mpr c51
                                clear c51
                                obtain rfl := Option.some.inj H
                                go_wp2_with (first | ((with_reducible refine gate_callee (f := 16) rfl ?_); refine goesL_ (some 179) rfl rfl Try.func16 (by kernel_rfl) rfl #[.int .i64 (wrap64 ((wrap64 (100 * t141)) + t142)), .int .i64 t143, .int .i64 t144, .int .i64 (wrap64 (t154 - 1))] rfl (by (try simp only [List.map_toArray, List.map_cons, List.map_nil]); first | done | rfl | (simp only [List.length_drop, List.length_take]; rfl)) ?_; (with_reducible refine (impl_StoreAfter.calls kj44 (wrap64 ((wrap64 (100 * t141)) + t142)) t143 t144 (wrap64 (t154 - 1)) t162 t163 t164 _ A50.out).mono ?_); rintro e w52 ⟨rfl, hb⟩; refine ⟨_, rfl, ?_⟩; have n0_ := Aside0.mk (below_step (by repeat (first | (with_reducible first | exact HB.out | apply below_alloc | apply pw_below_drewN | apply below_drew1) | exact HB.out)) hb); clear HB; have HB := n0_; clear n0_; (try clear hb); (try clear hb2); (try clear hk); (try clear hi)))
                                go_ret
                                exact ⟨by first | rfl | (simp [errW_none, errW_some] <;> rfl) | (simp [*, errW_none, errW_some] <;> rfl), by repeat (first | (with_reducible first | exact HB.out | apply below_alloc | apply pw_below_drewN | apply below_drew1) | exact HB.out)⟩
                              · rw [if_neg c51] at H
                                have c51b0 : (t164 == 0) = false := beq_eq_false_iff_ne.mpr c51
                                have c51b1 : (t164 != 0) = true := bne_iff_ne.mpr c51
                                obtain rfl := Option.some.inj H
                                go_wp2_with (first | ((with_reducible refine gate_callee (f := 16) rfl ?_); refine goesL_ (some 179) rfl rfl Try.func16 (by kernel_rfl) rfl #[.int .i64 (wrap64 ((wrap64 (100 * t141)) + t142)), .int .i64 t143, .int .i64 t144, .int .i64 (wrap64 (t154 - 1))] rfl (by (try simp only [List.map_toArray, List.map_cons, List.map_nil]); first | done | rfl | (simp only [List.length_drop, List.length_take]; rfl)) ?_; (with_reducible refine (impl_StoreAfter.calls kj44 (wrap64 ((wrap64 (100 * t141)) + t142)) t143 t144 (wrap64 (t154 - 1)) t162 t163 t164 _ A50.out).mono ?_); rintro e w53 ⟨rfl, hb⟩; refine ⟨_, rfl, ?_⟩; have n0_ := Aside0.mk (below_step (by repeat (first | (with_reducible first | exact HB.out | apply below_alloc | apply pw_below_drewN | apply below_drew1) | exact HB.out)) hb); clear HB; have HB := n0_; clear n0_; (try clear hb); (try clear hb2); (try clear hk); (try clear hi)))
                                go_ret
                                exact ⟨by first | rfl | (simp [errW_none, errW_some] <;> rfl) | (simp [*, errW_none, errW_some] <;> rfl), by repeat (first | (with_reducible first | exact HB.out | apply below_alloc | apply pw_below_drewN | apply below_drew1) | exact HB.out)⟩
                    · rw [if_neg c43] at H
                      have c43b0 : (t153 == 0) = false := beq_eq_false_iff_ne.mpr c43
                      have c43b1 : (t153 != 0) = true := bne_iff_ne.mpr c43
                      replace H := Option.bind_eq_some_iff.mp H
                      obtain ⟨⟨t156, t157, t158⟩, A540, H⟩ := H
                      replace H : (if t153 = 6 then (if t158 = 0 then (some (decide (t156 ≥ (wrap64 (1 + (wrap64 (t151 * 100))))))) else (some false)) else (some false)) = some r := H
                      have A54 := Aside0.mk A540
                      clear A540
                      by_cases c55 : t153 = 6
                      · rw [if_pos c55] at H
                        have c55b0 : (t153 == 6) = true := beq_iff_eq.mpr c55
                        have c55b1 : (t153 != 6) = false := bne_eq_false_iff_eq.mpr c55
                        clear c55
                        by_cases c56 : t158 = 0
                        · rw [if_pos c56] at H
                          have c56b0 : (t158 == 0) = true := beq_iff_eq.mpr c56
                          have c56b1 : (t158 != 0) = false := bne_eq_false_iff_eq.mpr c56
                          clear c56
                          obtain rfl := Option.some.inj H
                          go_wp2_with (first | ((with_reducible refine gate_callee (f := 16) rfl ?_); refine goesL_ (some 140) rfl rfl Try.func16 (by kernel_rfl) rfl #[.int .i64 (wrap64 ((wrap64 (100 * t141)) + t142)), .int .i64 t143, .int .i64 t144, .int .i64 20] rfl (by (try simp only [List.map_toArray, List.map_cons, List.map_nil]); first | done | rfl | (simp only [List.length_drop, List.length_take]; rfl)) ?_; (with_reducible refine (impl_StoreAfter.calls kj37 (wrap64 ((wrap64 (100 * t141)) + t142)) t143 t144 20 t156 t157 t158 _ A54.out).mono ?_); rintro e w57 ⟨rfl, hb⟩; refine ⟨_, rfl, ?_⟩; have n0_ := Aside0.mk (below_step (by repeat (first | (with_reducible first | exact HB.out | apply below_alloc | apply pw_below_drewN | apply below_drew1) | exact HB.out)) hb); clear HB; have HB := n0_; clear n0_; (try clear hb); (try clear hb2); (try clear hk); (try clear hi)))
                          go_ret
                          exact ⟨by first | rfl | (simp [errW_none, errW_some] <;> rfl) | (simp [*, errW_none, errW_some] <;> rfl), by repeat (first | (with_reducible first | exact HB.out | apply below_alloc | apply pw_below_drewN | apply below_drew1) | exact HB.out)⟩
                        · rw [if_neg c56] at H
                          have c56b0 : (t158 == 0) = false := beq_eq_false_iff_ne.mpr c56
                          have c56b1 : (t158 != 0) = true := bne_iff_ne.mpr c56
                          obtain rfl := Option.some.inj H
                          go_wp2_with (first | ((with_reducible refine gate_callee (f := 16) rfl ?_); refine goesL_ (some 140) rfl rfl Try.func16 (by kernel_rfl) rfl #[.int .i64 (wrap64 ((wrap64 (100 * t141)) + t142)), .int .i64 t143, .int .i64 t144, .int .i64 20] rfl (by (try simp only [List.map_toArray, List.map_cons, List.map_nil]); first | done | rfl | (simp only [List.length_drop, List.length_take]; rfl)) ?_; (with_reducible refine (impl_StoreAfter.calls kj37 (wrap64 ((wrap64 (100 * t141)) + t142)) t143 t144 20 t156 t157 t158 _ A54.out).mono ?_); rintro e w58 ⟨rfl, hb⟩; refine ⟨_, rfl, ?_⟩; have n0_ := Aside0.mk (below_step (by repeat (first | (with_reducible first | exact HB.out | apply below_alloc | apply pw_below_drewN | apply below_drew1) | exact HB.out)) hb); clear HB; have HB := n0_; clear n0_; (try clear hb); (try clear hb2); (try clear hk); (try clear hi)))
                          go_ret
                          exact ⟨by first | rfl | (simp [errW_none, errW_some] <;> rfl) | (simp [*, errW_none, errW_some] <;> rfl), by repeat (first | (with_reducible first | exact HB.out | apply below_alloc | apply pw_below_drewN | apply below_drew1) | exact HB.out)⟩
                      · rw [if_neg c55] at H
                        have c55b0 : (t153 == 6) = false := beq_eq_false_iff_ne.mpr c55
                        have c55b1 : (t153 != 6) = true := bne_iff_ne.mpr c55
                        obtain rfl := Option.some.inj H
                        go_wp2_with (first | ((with_reducible refine gate_callee (f := 16) rfl ?_); refine goesL_ (some 140) rfl rfl Try.func16 (by kernel_rfl) rfl #[.int .i64 (wrap64 ((wrap64 (100 * t141)) + t142)), .int .i64 t143, .int .i64 t144, .int .i64 20] rfl (by (try simp only [List.map_toArray, List.map_cons, List.map_nil]); first | done | rfl | (simp only [List.length_drop, List.length_take]; rfl)) ?_; (with_reducible refine (impl_StoreAfter.calls kj37 (wrap64 ((wrap64 (100 * t141)) + t142)) t143 t144 20 t156 t157 t158 _ A54.out).mono ?_); rintro e w59 ⟨rfl, hb⟩; refine ⟨_, rfl, ?_⟩; have n0_ := Aside0.mk (below_step (by repeat (first | (with_reducible first | exact HB.out | apply below_alloc | apply pw_below_drewN | apply below_drew1) | exact HB.out)) hb); clear HB; have HB := n0_; clear n0_; (try clear hb); (try clear hb2); (try clear hk); (try clear hi)))
                        go_ret
                        exact ⟨by first | rfl | (simp [errW_none, errW_some] <;> rfl) | (simp [*, errW_none, errW_some] <;> rfl), by repeat (first | (with_reducible first | exact HB.out | apply below_alloc | apply pw_below_drewN | apply below_drew1) | exact HB.out)⟩

/-- THE ONE PURE STATEMENT of laws_FnStores: yours. -/
def laws_FnStores.Pure : Prop := ∀ (l0 : List Int) (l1 : List Int), l0.length ≤ maxLen → l0.length * 1 ≤ 140737488351232 → (∀ x ∈ l0, (Lit.int .u8 x).wf = true) → l1.length ≤ maxLen → l1.length * 1 ≤ 140737488351232 → (∀ x ∈ l1, (Lit.int .u8 x).wf = true) → ∃ k, laws_FnStores.f k l0 l1 = some true
theorem laws_FnStores.walk (P : laws_FnStores.Pure) (a0 : Option Addr) (len0 cap0 : Nat) (z0 : List Int) (a1 : Option Addr) (len1 cap1 : Nat) (z1 : List Int) (w : World) (w0 : (a0 = none ∧ len0 = 0 ∧ cap0 = 0 ∧ z0 = []) ∨ ∃ x, a0 = some x ∧ len0 ≤ cap0 ∧ cap0 ≤ maxLen ∧ z0.length = cap0 ∧ (∀ i, i < z0.length → w.cell? (x.add i) = some (.int .u8 (z0.getD i 0))) ∧ ∀ n ∈ z0, (Lit.int .u8 n).wf = true) (y0 : len0 * 1 ≤ 140737488351232) (w1 : (a1 = none ∧ len1 = 0 ∧ cap1 = 0 ∧ z1 = []) ∨ ∃ x, a1 = some x ∧ len1 ≤ cap1 ∧ cap1 ≤ maxLen ∧ z1.length = cap1 ∧ (∀ i, i < z1.length → w.cell? (x.add i) = some (.int .u8 (z1.getD i 0))) ∧ ∀ n ∈ z1, (Lit.int .u8 n).wf = true) (y1 : len1 * 1 ≤ 140737488351232) :
    Calls Try.prog 6 #[.slice a0 len0 cap0, .slice a1 len1 cap1] w fun e w' => e = .returned (.bool true) ∧ Below w.heap.size w w' := by
  obtain ⟨l0, rfl, hr0, hm0, hw0, hc0⟩ := ReadsInt.ofRowC w0
  obtain ⟨l1, rfl, hr1, hm1, hw1, hc1⟩ := ReadsInt.ofRowC w1
  obtain ⟨k, h⟩ := P l0 l1 hm0 y0 hw0 hm1 y1 hw1
  refine (laws_FnStores.calls k _ _ l0 _ _ l1 true w (Kd.C_of_reads (d := (0 : Int)) (h1 := fun _ => rfl) hr0) hc0 (Kd.C_of_reads (d := (0 : Int)) (h1 := fun _ => rfl) hr1) hc1 h).mono ?_
  rintro e w' ⟨rfl, hd⟩
  exact ⟨rfl, hd⟩

end Go.Proofs.Ytgdkimdikalmkaa.PFnStores
