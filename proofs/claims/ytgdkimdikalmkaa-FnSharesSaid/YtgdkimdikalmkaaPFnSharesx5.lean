/- What the program's functions come to, each as a plain function, with its proof; no condition but those that each theorem names. Written by a program of this claim around the kit's print. -/
import Derived.Test.YtgdkimdikalmkaaPFnSharesx0
import Derived.Test.YtgdkimdikalmkaaPFnSharesx1
import Derived.Test.YtgdkimdikalmkaaPFnSharesx2
import Derived.Test.YtgdkimdikalmkaaPFnSharesx3
import Derived.Test.YtgdkimdikalmkaaPFnSharesx4
namespace Go.Proofs.Ytgdkimdikalmkaa.PFnShares
open Go.RowKit Go.Proofs.YtgdkimdikalmkaaW.PrintWords Go.Proofs.YtgdkimdikalmkaaW.PrintLast Go.Proofs.YtgdkimdikalmkaaW.PrintMore
attribute [local go_sem] max2_int min2_int max_two min_two max_three min_three max_four min_four   -- for this text's walks alone
set_option linter.unusedVariables false
set_option linter.unusedSimpArgs false

/-! ### laws_FnShares: function 14 -/
mutual
def laws_FnShares.l0 : Nat → List Int → List Int → Int → Int → Int → Option (Bool)
  | 0, _, _, _, _, _ => none
  | k + 1, x1, x5, x6, x7, x8 => if x8 < (x5.length : Int) then (if 0 ≤ x8 then (laws_FnShares.l0 k x1 x5 x6 (wrap64 (x7 + (rd x5 x8))) (wrap64 (x8 + 1))) else (none)) else ((impl_SharesOf.f x5 x6).bind fun bt235 => ((spec_SharesOf.f x5 x6).bind fun bt239 => (if bt235.2 = bt239.2 then ((spec_A2Same.f k bt235.1 bt239.1).bind fun t243 => (if t243 = true then (if x7 = 0 then (laws_FnShares.j1 k x1 x5 x6 x7 bt235.2 bt239.1 ((bt235.2 == 4) != (decide (x6 > 0)))) else (laws_FnShares.j1 k x1 x5 x6 x7 bt235.2 bt239.1 ((bt235.2 == 4) != false))) else (laws_FnShares.j1 k x1 x5 x6 x7 bt235.2 bt239.1 true))) else (laws_FnShares.j1 k x1 x5 x6 x7 bt235.2 bt239.1 true))))
def laws_FnShares.j1 : Nat → List Int → List Int → Int → Int → Int → List Int → Bool → Option (Bool)
  | 0, _, _, _, _, _, _, _ => none
  | k + 1, x1, x5, x6, x7, x10, x11, x87 => if x87 = true then (some false) else (if x10 = 0 then ((impl_CheckShares.f k x5 x6 x11).bind fun bt244 => (if bt244.2 = 0 then (if bt244.1 = true then (laws_FnShares.j2 k x1 x5 x6 x7 x11 0 ((x11.length : Int) != (x5.length : Int))) else (laws_FnShares.j2 k x1 x5 x6 x7 x11 0 true)) else (laws_FnShares.j2 k x1 x5 x6 x7 x11 0 true))) else (laws_FnShares.j6 k x5 x6 x7))
def laws_FnShares.j6 : Nat → List Int → Int → Int → Option (Bool)
  | 0, _, _, _ => none
  | k + 1, x5, x6, x7 => (impl_EqualAwards.f k x5 x6).bind fun bt268 => ((spec_EqualAwards.f k x5 x6).bind fun bt272 => ((impl_CheckAwards.f k x5 x6 bt272.1).bind fun bt276 => (if bt268.2 = bt272.2 then (if bt268.2 = 0 then ((spec_A2Same.f k bt268.1 bt272.1).bind fun t278 => (if t278 = true then (if bt276.2 = 0 then (if bt276.1 = true then (laws_FnShares.j7 k x5 x6 x7 bt272.1 ((bt272.1.length : Int) != (x5.length : Int))) else (laws_FnShares.j7 k x5 x6 x7 bt272.1 true)) else (laws_FnShares.j7 k x5 x6 x7 bt272.1 true)) else (laws_FnShares.j7 k x5 x6 x7 bt272.1 true))) else (laws_FnShares.j7 k x5 x6 x7 bt272.1 true)) else (laws_FnShares.j7 k x5 x6 x7 bt272.1 true))))
def laws_FnShares.j7 : Nat → List Int → Int → Int → List Int → Bool → Option (Bool)
  | 0, _, _, _, _, _ => none
  | k + 1, x5, x6, x7, x23, x271 => if x271 = true then (some false) else (laws_FnShares.l3 k x5 x6 x7 x23 0 0)
def laws_FnShares.l3 : Nat → List Int → Int → Int → List Int → Int → Int → Option (Bool)
  | 0, _, _, _, _, _, _ => none
  | k + 1, x5, x6, x7, x23, x27, x28 => if x28 < (x23.length : Int) then (if 0 ≤ x28 then (if (rd x23 x28) < 0 then (laws_FnShares.j9 k x5 x6 x7 x23 x27 x28 true) else (if x28 < (x5.length : Int) then (laws_FnShares.j9 k x5 x6 x7 x23 x27 x28 (decide ((rd x23 x28) > (rd x5 x28)))) else (none))) else (none)) else (if x27 = (mn x6 x7) then (if (x23.length : Int) = 0 then (some true) else ((some (([] : List Int) : List Int)).bind fun y287 => (if y287.length + x23.length < 17592186044416 then ((some (y287 ++ x23 : List Int)).bind fun y290 => (if 0 < (y290.length : Int) then ((impl_CheckAwards.f k x5 x6 (y290.set (0 : Int).toNat (wrap64 ((rd y290 0) + 1)))).bind fun bt295 => (if bt295.2 = 0 then (some (!bt295.1)) else (some false))) else (none))) else (none)))) else (some false))
def laws_FnShares.j9 : Nat → List Int → Int → Int → List Int → Int → Int → Bool → Option (Bool)
  | 0, _, _, _, _, _, _, _ => none
  | k + 1, x5, x6, x7, x23, x27, x28, x293 => if x293 = true then (some false) else (if 0 ≤ x28 then (if x28 < (x23.length : Int) then (laws_FnShares.l4 k x5 x6 x7 x23 (wrap64 (x27 + (rd x23 x28))) x28 0) else (none)) else (none))
def laws_FnShares.l4 : Nat → List Int → Int → Int → List Int → Int → Int → Int → Option (Bool)
  | 0, _, _, _, _, _, _, _ => none
  | k + 1, x5, x6, x7, x23, x27, x28, x29 => if x29 < (x23.length : Int) then (if 0 ≤ x29 then (if x29 < (x5.length : Int) then (if (rd x23 x29) < (rd x5 x29) then (if 0 ≤ x28 then (if x28 < (x23.length : Int) then (if (rd x23 x28) > (wrap64 ((rd x23 x29) + 1)) then (some false) else (laws_FnShares.l4 k x5 x6 x7 x23 x27 x28 (wrap64 (x29 + 1)))) else (none)) else (none)) else (laws_FnShares.l4 k x5 x6 x7 x23 x27 x28 (wrap64 (x29 + 1)))) else (none)) else (none)) else (laws_FnShares.l3 k x5 x6 x7 x23 x27 (wrap64 (x28 + 1)))
def laws_FnShares.j2 : Nat → List Int → List Int → Int → Int → List Int → Int → Bool → Option (Bool)
  | 0, _, _, _, _, _, _, _ => none
  | k + 1, x1, x5, x6, x7, x11, x15, x109 => if x109 = true then (some false) else (laws_FnShares.l1 k x1 x5 x6 x7 x11 x15 0)
def laws_FnShares.l1 : Nat → List Int → List Int → Int → Int → List Int → Int → Int → Option (Bool)
  | 0, _, _, _, _, _, _, _ => none
  | k + 1, x1, x5, x6, x7, x11, x15, x16 => if x16 < (x11.length : Int) then (if x7 > 0 then (if 0 ≤ x16 then (if x16 < (x5.length : Int) then (if (wrap64 ((rd x11 x16) * x7)) ≤ (wrap64 ((wrap64 (x6 * (rd x5 x16))) - x7)) then (laws_FnShares.j4 k x1 x5 x6 x7 x11 x15 x16 true) else (if (wrap64 ((rd x11 x16) * x7)) ≥ (wrap64 ((wrap64 (x6 * (rd x5 x16))) + x7)) then (laws_FnShares.j4 k x1 x5 x6 x7 x11 x15 x16 true) else (if x7 = 0 then (laws_FnShares.j4 k x1 x5 x6 x7 x11 x15 x16 ((rd x11 x16) != 0)) else (laws_FnShares.j4 k x1 x5 x6 x7 x11 x15 x16 false)))) else (none)) else (none)) else (if x7 = 0 then (if 0 ≤ x16 then (laws_FnShares.j4 k x1 x5 x6 x7 x11 x15 x16 ((rd x11 x16) != 0)) else (none)) else (laws_FnShares.j4 k x1 x5 x6 x7 x11 x15 x16 false))) else (if x15 = x6 then (if (x11.length : Int) > 0 then ((some (([] : List Int) : List Int)).bind fun y257 => (if y257.length + x11.length < 17592186044416 then ((some (y257 ++ x11 : List Int)).bind fun y260 => ((laws_a2At.f x1 2 (x11.length : Int)).bind fun t263 => (if 0 ≤ t263 then (if t263 < (y260.length : Int) then ((impl_CheckShares.f k x5 x6 (y260.set (t263 : Int).toNat (wrap64 ((rd y260 t263) + 1)))).bind fun bt266 => (if bt266.2 = 0 then (if bt266.1 = true then (some false) else (laws_FnShares.j6 k x5 x6 x7)) else (some false))) else (none)) else (none)))) else (none))) else (laws_FnShares.j6 k x5 x6 x7)) else (some false))
def laws_FnShares.j4 : Nat → List Int → List Int → Int → Int → List Int → Int → Int → Bool → Option (Bool)
  | 0, _, _, _, _, _, _, _, _ => none
  | k + 1, x1, x5, x6, x7, x11, x15, x16, x162 => if x162 = true then (some false) else (if 0 ≤ x16 then (if x16 < (x11.length : Int) then (laws_FnShares.l2 k x1 x5 x6 x7 x11 (wrap64 (x15 + (rd x11 x16))) x16 0) else (none)) else (none))
def laws_FnShares.l2 : Nat → List Int → List Int → Int → Int → List Int → Int → Int → Int → Option (Bool)
  | 0, _, _, _, _, _, _, _, _ => none
  | k + 1, x1, x5, x6, x7, x11, x15, x16, x17 => if x17 < (x11.length : Int) then (if 0 ≤ x16 then (if x16 < (x5.length : Int) then (if 0 ≤ x17 then (if x17 < (x5.length : Int) then (if (rd x5 x16) > (rd x5 x17) then (if x16 < (x11.length : Int) then (if (rd x11 x16) < (rd x11 x17) then (some false) else (laws_FnShares.l2 k x1 x5 x6 x7 x11 x15 x16 (wrap64 (x17 + 1)))) else (none)) else (laws_FnShares.l2 k x1 x5 x6 x7 x11 x15 x16 (wrap64 (x17 + 1)))) else (none)) else (none)) else (none)) else (none)) else (laws_FnShares.l1 k x1 x5 x6 x7 x11 x15 (wrap64 (x16 + 1)))
end
def laws_FnShares.f (k : Nat) (l0 : List Int) (l1 : List Int) : Option (Bool) := (laws_a2Long.f l0 l1).bind fun t228 => (if t228 = true then (some true) else ((spec_A2Amounts.f k l0).bind fun t229 => ((laws_a2At.f l1 0 256).bind fun t232 => ((laws_a2At.f l1 1 256).bind fun t233 => (laws_FnShares.l0 k l1 t229 (wrap64 (t232 + (wrap64 (7 * t233)))) 0 0)))))
theorem laws_FnShares.mono_l : ∀ k, (∀ y0 y1 y2 y3 y4, LeO (laws_FnShares.l0 k y0 y1 y2 y3 y4) (laws_FnShares.l0 (k + 1) y0 y1 y2 y3 y4)) ∧ (∀ y0 y1 y2 y3 y4 y5 y6, LeO (laws_FnShares.j1 k y0 y1 y2 y3 y4 y5 y6) (laws_FnShares.j1 (k + 1) y0 y1 y2 y3 y4 y5 y6)) ∧ (∀ y0 y1 y2, LeO (laws_FnShares.j6 k y0 y1 y2) (laws_FnShares.j6 (k + 1) y0 y1 y2)) ∧ (∀ y0 y1 y2 y3 y4, LeO (laws_FnShares.j7 k y0 y1 y2 y3 y4) (laws_FnShares.j7 (k + 1) y0 y1 y2 y3 y4)) ∧ (∀ y0 y1 y2 y3 y4 y5, LeO (laws_FnShares.l3 k y0 y1 y2 y3 y4 y5) (laws_FnShares.l3 (k + 1) y0 y1 y2 y3 y4 y5)) ∧ (∀ y0 y1 y2 y3 y4 y5 y6, LeO (laws_FnShares.j9 k y0 y1 y2 y3 y4 y5 y6) (laws_FnShares.j9 (k + 1) y0 y1 y2 y3 y4 y5 y6)) ∧ (∀ y0 y1 y2 y3 y4 y5 y6, LeO (laws_FnShares.l4 k y0 y1 y2 y3 y4 y5 y6) (laws_FnShares.l4 (k + 1) y0 y1 y2 y3 y4 y5 y6)) ∧ (∀ y0 y1 y2 y3 y4 y5 y6, LeO (laws_FnShares.j2 k y0 y1 y2 y3 y4 y5 y6) (laws_FnShares.j2 (k + 1) y0 y1 y2 y3 y4 y5 y6)) ∧ (∀ y0 y1 y2 y3 y4 y5 y6, LeO (laws_FnShares.l1 k y0 y1 y2 y3 y4 y5 y6) (laws_FnShares.l1 (k + 1) y0 y1 y2 y3 y4 y5 y6)) ∧ (∀ y0 y1 y2 y3 y4 y5 y6 y7, LeO (laws_FnShares.j4 k y0 y1 y2 y3 y4 y5 y6 y7) (laws_FnShares.j4 (k + 1) y0 y1 y2 y3 y4 y5 y6 y7)) ∧ (∀ y0 y1 y2 y3 y4 y5 y6 y7, LeO (laws_FnShares.l2 k y0 y1 y2 y3 y4 y5 y6 y7) (laws_FnShares.l2 (k + 1) y0 y1 y2 y3 y4 y5 y6 y7))
  | 0 => ⟨fun _ _ _ _ _ r h => by simp [laws_FnShares.l0] at h, fun _ _ _ _ _ _ _ r h => by simp [laws_FnShares.j1] at h, fun _ _ _ r h => by simp [laws_FnShares.j6] at h, fun _ _ _ _ _ r h => by simp [laws_FnShares.j7] at h, fun _ _ _ _ _ _ r h => by simp [laws_FnShares.l3] at h, fun _ _ _ _ _ _ _ r h => by simp [laws_FnShares.j9] at h, fun _ _ _ _ _ _ _ r h => by simp [laws_FnShares.l4] at h, fun _ _ _ _ _ _ _ r h => by simp [laws_FnShares.j2] at h, fun _ _ _ _ _ _ _ r h => by simp [laws_FnShares.l1] at h, fun _ _ _ _ _ _ _ _ r h => by simp [laws_FnShares.j4] at h, fun _ _ _ _ _ _ _ _ r h => by simp [laws_FnShares.l2] at h⟩
  | k + 1 => by
    obtain ⟨ih0, ih1, ih2, ih3, ih4, ih5, ih6, ih7, ih8, ih9, ih10⟩ := laws_FnShares.mono_l k
    refine ⟨?_, ?_, ?_, ?_, ?_, ?_, ?_, ?_, ?_, ?_, ?_⟩
    · intro y0 y1 y2 y3 y4
      unfold laws_FnShares.l0
      repeat' first
      | (with_reducible exact ih0 _ _ _ _ _)
      | (with_reducible exact ih1 _ _ _ _ _ _ _)
      | (with_reducible exact ih2 _ _ _)
      | (with_reducible exact ih3 _ _ _ _ _)
      | (with_reducible exact ih4 _ _ _ _ _ _)
      | (with_reducible exact ih5 _ _ _ _ _ _ _)
      | (with_reducible exact ih6 _ _ _ _ _ _ _)
      | (with_reducible exact ih7 _ _ _ _ _ _ _)
      | (with_reducible exact ih8 _ _ _ _ _ _ _)
      | (with_reducible exact ih9 _ _ _ _ _ _ _ _)
      | (with_reducible exact ih10 _ _ _ _ _ _ _ _)
      | (with_reducible exact impl_CheckAwards.mono _ _ _ _)
      | (with_reducible exact impl_CheckShares.mono _ _ _ _)
      | (with_reducible exact impl_EqualAwards.mono _ _ _)
      | (with_reducible exact spec_A2Amounts.mono _ _)
      | (with_reducible exact spec_A2Same.mono _ _ _)
      | (with_reducible exact spec_EqualAwards.mono _ _ _)
      | (with_reducible exact LeO.refl _)
      | (with_reducible exact LeO.none _)
      | (with_reducible refine LeO.ite ?_ ?_)
      | (with_reducible refine LeO.bind ?_ (fun _ => ?_))
      | exact ih0 _ _ _ _ _
      | exact ih1 _ _ _ _ _ _ _
      | exact ih2 _ _ _
      | exact ih3 _ _ _ _ _
      | exact ih4 _ _ _ _ _ _
      | exact ih5 _ _ _ _ _ _ _
      | exact ih6 _ _ _ _ _ _ _
      | exact ih7 _ _ _ _ _ _ _
      | exact ih8 _ _ _ _ _ _ _
      | exact ih9 _ _ _ _ _ _ _ _
      | exact ih10 _ _ _ _ _ _ _ _
      | exact impl_CheckAwards.mono _ _ _ _
      | exact impl_CheckShares.mono _ _ _ _
      | exact impl_EqualAwards.mono _ _ _
      | exact spec_A2Amounts.mono _ _
      | exact spec_A2Same.mono _ _ _
      | exact spec_EqualAwards.mono _ _ _
      | exact LeO.none _
      | refine LeO.ite ?_ ?_
      | refine LeO.bind ?_ (fun _ => ?_)
    · intro y0 y1 y2 y3 y4 y5 y6
      unfold laws_FnShares.j1
      repeat' first
      | (with_reducible exact ih0 _ _ _ _ _)
      | (with_reducible exact ih1 _ _ _ _ _ _ _)
      | (with_reducible exact ih2 _ _ _)
      | (with_reducible exact ih3 _ _ _ _ _)
      | (with_reducible exact ih4 _ _ _ _ _ _)
      | (with_reducible exact ih5 _ _ _ _ _ _ _)
      | (with_reducible exact ih6 _ _ _ _ _ _ _)
      | (with_reducible exact ih7 _ _ _ _ _ _ _)
      | (with_reducible exact ih8 _ _ _ _ _ _ _)
      | (with_reducible exact ih9 _ _ _ _ _ _ _ _)
      | (with_reducible exact ih10 _ _ _ _ _ _ _ _)
      | (with_reducible exact impl_CheckAwards.mono _ _ _ _)
      | (with_reducible exact impl_CheckShares.mono _ _ _ _)
      | (with_reducible exact impl_EqualAwards.mono _ _ _)
      | (with_reducible exact spec_A2Amounts.mono _ _)
      | (with_reducible exact spec_A2Same.mono _ _ _)
      | (with_reducible exact spec_EqualAwards.mono _ _ _)
      | (with_reducible exact LeO.refl _)
      | (with_reducible exact LeO.none _)
      | (with_reducible refine LeO.ite ?_ ?_)
      | (with_reducible refine LeO.bind ?_ (fun _ => ?_))
      | exact ih0 _ _ _ _ _
      | exact ih1 _ _ _ _ _ _ _
      | exact ih2 _ _ _
      | exact ih3 _ _ _ _ _
      | exact ih4 _ _ _ _ _ _
      | exact ih5 _ _ _ _ _ _ _
      | exact ih6 _ _ _ _ _ _ _
      | exact ih7 _ _ _ _ _ _ _
      | exact ih8 _ _ _ _ _ _ _
      | exact ih9 _ _ _ _ _ _ _ _
      | exact ih10 _ _ _ _ _ _ _ _
      | exact impl_CheckAwards.mono _ _ _ _
      | exact impl_CheckShares.mono _ _ _ _
      | exact impl_EqualAwards.mono _ _ _
      | exact spec_A2Amounts.mono _ _
      | exact spec_A2Same.mono _ _ _
      | exact spec_EqualAwards.mono _ _ _
      | exact LeO.none _
      | refine LeO.ite ?_ ?_
      | refine LeO.bind ?_ (fun _ => ?_)
    · intro y0 y1 y2
      unfold laws_FnShares.j6
      repeat' first
      | (with_reducible exact ih0 _ _ _ _ _)
      | (with_reducible exact ih1 _ _ _ _ _ _ _)
      | (with_reducible exact ih2 _ _ _)
      | (with_reducible exact ih3 _ _ _ _ _)
      | (with_reducible exact ih4 _ _ _ _ _ _)
      | (with_reducible exact ih5 _ _ _ _ _ _ _)
      | (with_reducible exact ih6 _ _ _ _ _ _ _)
      | (with_reducible exact ih7 _ _ _ _ _ _ _)
      | (with_reducible exact ih8 _ _ _ _ _ _ _)
      | (with_reducible exact ih9 _ _ _ _ _ _ _ _)
      | (with_reducible exact ih10 _ _ _ _ _ _ _ _)
      | (with_reducible exact impl_CheckAwards.mono _ _ _ _)
      | (with_reducible exact impl_CheckShares.mono _ _ _ _)
      | (with_reducible exact impl_EqualAwards.mono _ _ _)
      | (with_reducible exact spec_A2Amounts.mono _ _)
      | (with_reducible exact spec_A2Same.mono _ _ _)
      | (with_reducible exact spec_EqualAwards.mono _ _ _)
      | (with_reducible exact LeO.refl _)
      | (with_reducible exact LeO.none _)
      | (with_reducible refine LeO.ite ?_ ?_)
      | (with_reducible refine LeO.bind ?_ (fun _ => ?_))
      | exact ih0 _ _ _ _ _
      | exact ih1 _ _ _ _ _ _ _
      | exact ih2 _ _ _
      | exact ih3 _ _ _ _ _
      | exact ih4 _ _ _ _ _ _
      | exact ih5 _ _ _ _ _ _ _
      | exact ih6 _ _ _ _ _ _ _
      | exact ih7 _ _ _ _ _ _ _
      | exact ih8 _ _ _ _ _ _ _
      | exact ih9 _ _ _ _ _ _ _ _
      | exact ih10 _ _ _ _ _ _ _ _
      | exact impl_CheckAwards.mono _ _ _ _
      | exact impl_CheckShares.mono _ _ _ _
      | exact impl_EqualAwards.mono _ _ _
      | exact spec_A2Amounts.mono _ _
      | exact spec_A2Same.mono _ _ _
      | exact spec_EqualAwards.mono _ _ _
      | exact LeO.none _
      | refine LeO.ite ?_ ?_
      | refine LeO.bind ?_ (fun _ => ?_)
    · intro y0 y1 y2 y3 y4
      unfold laws_FnShares.j7
      repeat' first
      | (with_reducible exact ih0 _ _ _ _ _)
      | (with_reducible exact ih1 _ _ _ _ _ _ _)
      | (with_reducible exact ih2 _ _ _)
      | (with_reducible exact ih3 _ _ _ _ _)
      | (with_reducible exact ih4 _ _ _ _ _ _)
      | (with_reducible exact ih5 _ _ _ _ _ _ _)
      | (with_reducible exact ih6 _ _ _ _ _ _ _)
      | (with_reducible exact ih7 _ _ _ _ _ _ _)
      | (with_reducible exact ih8 _ _ _ _ _ _ _)
      | (with_reducible exact ih9 _ _ _ _ _ _ _ _)
      | (with_reducible exact ih10 _ _ _ _ _ _ _ _)
      | (with_reducible exact impl_CheckAwards.mono _ _ _ _)
      | (with_reducible exact impl_CheckShares.mono _ _ _ _)
      | (with_reducible exact impl_EqualAwards.mono _ _ _)
      | (with_reducible exact spec_A2Amounts.mono _ _)
      | (with_reducible exact spec_A2Same.mono _ _ _)
      | (with_reducible exact spec_EqualAwards.mono _ _ _)
      | (with_reducible exact LeO.refl _)
      | (with_reducible exact LeO.none _)
      | (with_reducible refine LeO.ite ?_ ?_)
      | (with_reducible refine LeO.bind ?_ (fun _ => ?_))
      | exact ih0 _ _ _ _ _
      | exact ih1 _ _ _ _ _ _ _
      | exact ih2 _ _ _
      | exact ih3 _ _ _ _ _
      | exact ih4 _ _ _ _ _ _
      | exact ih5 _ _ _ _ _ _ _
      | exact ih6 _ _ _ _ _ _ _
      | exact ih7 _ _ _ _ _ _ _
      | exact ih8 _ _ _ _ _ _ _
      | exact ih9 _ _ _ _ _ _ _ _
      | exact ih10 _ _ _ _ _ _ _ _
      | exact impl_CheckAwards.mono _ _ _ _
      | exact impl_CheckShares.mono _ _ _ _
      | exact impl_EqualAwards.mono _ _ _
      | exact spec_A2Amounts.mono _ _
      | exact spec_A2Same.mono _ _ _
      | exact spec_EqualAwards.mono _ _ _
      | exact LeO.none _
      | refine LeO.ite ?_ ?_
      | refine LeO.bind ?_ (fun _ => ?_)
    · intro y0 y1 y2 y3 y4 y5
      unfold laws_FnShares.l3
      repeat' first
      | (with_reducible exact ih0 _ _ _ _ _)
      | (with_reducible exact ih1 _ _ _ _ _ _ _)
      | (with_reducible exact ih2 _ _ _)
      | (with_reducible exact ih3 _ _ _ _ _)
      | (with_reducible exact ih4 _ _ _ _ _ _)
      | (with_reducible exact ih5 _ _ _ _ _ _ _)
      | (with_reducible exact ih6 _ _ _ _ _ _ _)
      | (with_reducible exact ih7 _ _ _ _ _ _ _)
      | (with_reducible exact ih8 _ _ _ _ _ _ _)
      | (with_reducible exact ih9 _ _ _ _ _ _ _ _)
      | (with_reducible exact ih10 _ _ _ _ _ _ _ _)
      | (with_reducible exact impl_CheckAwards.mono _ _ _ _)
      | (with_reducible exact impl_CheckShares.mono _ _ _ _)
      | (with_reducible exact impl_EqualAwards.mono _ _ _)
      | (with_reducible exact spec_A2Amounts.mono _ _)
      | (with_reducible exact spec_A2Same.mono _ _ _)
      | (with_reducible exact spec_EqualAwards.mono _ _ _)
      | (with_reducible exact LeO.refl _)
      | (with_reducible exact LeO.none _)
      | (with_reducible refine LeO.ite ?_ ?_)
      | (with_reducible refine LeO.bind ?_ (fun _ => ?_))
      | exact ih0 _ _ _ _ _
      | exact ih1 _ _ _ _ _ _ _
      | exact ih2 _ _ _
      | exact ih3 _ _ _ _ _
      | exact ih4 _ _ _ _ _ _
      | exact ih5 _ _ _ _ _ _ _
      | exact ih6 _ _ _ _ _ _ _
      | exact ih7 _ _ _ _ _ _ _
      | exact ih8 _ _ _ _ _ _ _
      | exact ih9 _ _ _ _ _ _ _ _
      | exact ih10 _ _ _ _ _ _ _ _
      | exact impl_CheckAwards.mono _ _ _ _
      | exact impl_CheckShares.mono _ _ _ _
      | exact impl_EqualAwards.mono _ _ _
      | exact spec_A2Amounts.mono _ _
      | exact spec_A2Same.mono _ _ _
      | exact spec_EqualAwards.mono _ _ _
      | exact LeO.none _
      | refine LeO.ite ?_ ?_
      | refine LeO.bind ?_ (fun _ => ?_)
    · intro y0 y1 y2 y3 y4 y5 y6
      unfold laws_FnShares.j9
      repeat' first
      | (with_reducible exact ih0 _ _ _ _ _)
      | (with_reducible exact ih1 _ _ _ _ _ _ _)
      | (with_reducible exact ih2 _ _ _)
      | (with_reducible exact ih3 _ _ _ _ _)
      | (with_reducible exact ih4 _ _ _ _ _ _)
      | (with_reducible exact ih5 _ _ _ _ _ _ _)
      | (with_reducible exact ih6 _ _ _ _ _ _ _)
      | (with_reducible exact ih7 _ _ _ _ _ _ _)
      | (with_reducible exact ih8 _ _ _ _ _ _ _)
      | (with_reducible exact ih9 _ _ _ _ _ _ _ _)
      | (with_reducible exact ih10 _ _ _ _ _ _ _ _)
      | (with_reducible exact impl_CheckAwards.mono _ _ _ _)
      | (with_reducible exact impl_CheckShares.mono _ _ _ _)
      | (with_reducible exact impl_EqualAwards.mono _ _ _)
      | (with_reducible exact spec_A2Amounts.mono _ _)
      | (with_reducible exact spec_A2Same.mono _ _ _)
      | (with_reducible exact spec_EqualAwards.mono _ _ _)
      | (with_reducible exact LeO.refl _)
      | (with_reducible exact LeO.none _)
      | (with_reducible refine LeO.ite ?_ ?_)
      | (with_reducible refine LeO.bind ?_ (fun _ => ?_))
      | exact ih0 _ _ _ _ _
      | exact ih1 _ _ _ _ _ _ _
      | exact ih2 _ _ _
      | exact ih3 _ _ _ _ _
      | exact ih4 _ _ _ _ _ _
      | exact ih5 _ _ _ _ _ _ _
      | exact ih6 _ _ _ _ _ _ _
      | exact ih7 _ _ _ _ _ _ _
      | exact ih8 _ _ _ _ _ _ _
      | exact ih9 _ _ _ _ _ _ _ _
      | exact ih10 _ _ _ _ _ _ _ _
      | exact impl_CheckAwards.mono _ _ _ _
      | exact impl_CheckShares.mono _ _ _ _
      | exact impl_EqualAwards.mono _ _ _
      | exact spec_A2Amounts.mono _ _
      | exact spec_A2Same.mono _ _ _
      | exact spec_EqualAwards.mono _ _ _
      | exact LeO.none _
      | refine LeO.ite ?_ ?_
      | refine LeO.bind ?_ (fun _ => ?_)
    · intro y0 y1 y2 y3 y4 y5 y6
      unfold laws_FnShares.l4
      repeat' first
      | (with_reducible exact ih0 _ _ _ _ _)
      | (with_reducible exact ih1 _ _ _ _ _ _ _)
      | (with_reducible exact ih2 _ _ _)
      | (with_reducible exact ih3 _ _ _ _ _)
      | (with_reducible exact ih4 _ _ _ _ _ _)
      | (with_reducible exact ih5 _ _ _ _ _ _ _)
      | (with_reducible exact ih6 _ _ _ _ _ _ _)
      | (with_reducible exact ih7 _ _ _ _ _ _ _)
      | (with_reducible exact ih8 _ _ _ _ _ _ _)
      | (with_reducible exact ih9 _ _ _ _ _ _ _ _)
      | (with_reducible exact ih10 _ _ _ _ _ _ _ _)
      | (with_reducible exact impl_CheckAwards.mono _ _ _ _)
      | (with_reducible exact impl_CheckShares.mono _ _ _ _)
      | (with_reducible exact impl_EqualAwards.mono _ _ _)
      | (with_reducible exact spec_A2Amounts.mono _ _)
      | (with_reducible exact spec_A2Same.mono _ _ _)
      | (with_reducible exact spec_EqualAwards.mono _ _ _)
      | (with_reducible exact LeO.refl _)
      | (with_reducible exact LeO.none _)
      | (with_reducible refine LeO.ite ?_ ?_)
      | (with_reducible refine LeO.bind ?_ (fun _ => ?_))
      | exact ih0 _ _ _ _ _
      | exact ih1 _ _ _ _ _ _ _
      | exact ih2 _ _ _
      | exact ih3 _ _ _ _ _
      | exact ih4 _ _ _ _ _ _
      | exact ih5 _ _ _ _ _ _ _
      | exact ih6 _ _ _ _ _ _ _
      | exact ih7 _ _ _ _ _ _ _
      | exact ih8 _ _ _ _ _ _ _
      | exact ih9 _ _ _ _ _ _ _ _
      | exact ih10 _ _ _ _ _ _ _ _
      | exact impl_CheckAwards.mono _ _ _ _
      | exact impl_CheckShares.mono _ _ _ _
      | exact impl_EqualAwards.mono _ _ _
      | exact spec_A2Amounts.mono _ _
      | exact spec_A2Same.mono _ _ _
      | exact spec_EqualAwards.mono _ _ _
      | exact LeO.none _
      | refine LeO.ite ?_ ?_
      | refine LeO.bind ?_ (fun _ => ?_)
    · intro y0 y1 y2 y3 y4 y5 y6
      unfold laws_FnShares.j2
      repeat' first
      | (with_reducible exact ih0 _ _ _ _ _)
      | (with_reducible exact ih1 _ _ _ _ _ _ _)
      | (with_reducible exact ih2 _ _ _)
      | (with_reducible exact ih3 _ _ _ _ _)
      | (with_reducible exact ih4 _ _ _ _ _ _)
      | (with_reducible exact ih5 _ _ _ _ _ _ _)
      | (with_reducible exact ih6 _ _ _ _ _ _ _)
      | (with_reducible exact ih7 _ _ _ _ _ _ _)
      | (with_reducible exact ih8 _ _ _ _ _ _ _)
      | (with_reducible exact ih9 _ _ _ _ _ _ _ _)
      | (with_reducible exact ih10 _ _ _ _ _ _ _ _)
      | (with_reducible exact impl_CheckAwards.mono _ _ _ _)
      | (with_reducible exact impl_CheckShares.mono _ _ _ _)
      | (with_reducible exact impl_EqualAwards.mono _ _ _)
      | (with_reducible exact spec_A2Amounts.mono _ _)
      | (with_reducible exact spec_A2Same.mono _ _ _)
      | (with_reducible exact spec_EqualAwards.mono _ _ _)
      | (with_reducible exact LeO.refl _)
      | (with_reducible exact LeO.none _)
      | (with_reducible refine LeO.ite ?_ ?_)
      | (with_reducible refine LeO.bind ?_ (fun _ => ?_))
      | exact ih0 _ _ _ _ _
      | exact ih1 _ _ _ _ _ _ _
      | exact ih2 _ _ _
      | exact ih3 _ _ _ _ _
      | exact ih4 _ _ _ _ _ _
      | exact ih5 _ _ _ _ _ _ _
      | exact ih6 _ _ _ _ _ _ _
      | exact ih7 _ _ _ _ _ _ _
      | exact ih8 _ _ _ _ _ _ _
      | exact ih9 _ _ _ _ _ _ _ _
      | exact ih10 _ _ _ _ _ _ _ _
      | exact impl_CheckAwards.mono _ _ _ _
      | exact impl_CheckShares.mono _ _ _ _
      | exact impl_EqualAwards.mono _ _ _
      | exact spec_A2Amounts.mono _ _
      | exact spec_A2Same.mono _ _ _
      | exact spec_EqualAwards.mono _ _ _
      | exact LeO.none _
      | refine LeO.ite ?_ ?_
      | refine LeO.bind ?_ (fun _ => ?_)
    · intro y0 y1 y2 y3 y4 y5 y6
      unfold laws_FnShares.l1
      repeat' first
      | (with_reducible exact ih0 _ _ _ _ _)
      | (with_reducible exact ih1 _ _ _ _ _ _ _)
      | (with_reducible exact ih2 _ _ _)
      | (with_reducible exact ih3 _ _ _ _ _)
      | (with_reducible exact ih4 _ _ _ _ _ _)
      | (with_reducible exact ih5 _ _ _ _ _ _ _)
      | (with_reducible exact ih6 _ _ _ _ _ _ _)
      | (with_reducible exact ih7 _ _ _ _ _ _ _)
      | (with_reducible exact ih8 _ _ _ _ _ _ _)
      | (with_reducible exact ih9 _ _ _ _ _ _ _ _)
      | (with_reducible exact ih10 _ _ _ _ _ _ _ _)
      | (with_reducible exact impl_CheckAwards.mono _ _ _ _)
      | (with_reducible exact impl_CheckShares.mono _ _ _ _)
      | (with_reducible exact impl_EqualAwards.mono _ _ _)
      | (with_reducible exact spec_A2Amounts.mono _ _)
      | (with_reducible exact spec_A2Same.mono _ _ _)
      | (with_reducible exact spec_EqualAwards.mono _ _ _)
      | (with_reducible exact LeO.refl _)
      | (with_reducible exact LeO.none _)
      | (with_reducible refine LeO.ite ?_ ?_)
      | (with_reducible refine LeO.bind ?_ (fun _ => ?_))
      | exact ih0 _ _ _ _ _
      | exact ih1 _ _ _ _ _ _ _
      | exact ih2 _ _ _
      | exact ih3 _ _ _ _ _
      | exact ih4 _ _ _ _ _ _
      | exact ih5 _ _ _ _ _ _ _
      | exact ih6 _ _ _ _ _ _ _
      | exact ih7 _ _ _ _ _ _ _
      | exact ih8 _ _ _ _ _ _ _
      | exact ih9 _ _ _ _ _ _ _ _
      | exact ih10 _ _ _ _ _ _ _ _
      | exact impl_CheckAwards.mono _ _ _ _
      | exact impl_CheckShares.mono _ _ _ _
      | exact impl_EqualAwards.mono _ _ _
      | exact spec_A2Amounts.mono _ _
      | exact spec_A2Same.mono _ _ _
      | exact spec_EqualAwards.mono _ _ _
      | exact LeO.none _
      | refine LeO.ite ?_ ?_
      | refine LeO.bind ?_ (fun _ => ?_)
    · intro y0 y1 y2 y3 y4 y5 y6 y7
      unfold laws_FnShares.j4
      repeat' first
      | (with_reducible exact ih0 _ _ _ _ _)
      | (with_reducible exact ih1 _ _ _ _ _ _ _)
      | (with_reducible exact ih2 _ _ _)
      | (with_reducible exact ih3 _ _ _ _ _)
      | (with_reducible exact ih4 _ _ _ _ _ _)
      | (with_reducible exact ih5 _ _ _ _ _ _ _)
      | (with_reducible exact ih6 _ _ _ _ _ _ _)
      | (with_reducible exact ih7 _ _ _ _ _ _ _)
      | (with_reducible exact ih8 _ _ _ _ _ _ _)
      | (with_reducible exact ih9 _ _ _ _ _ _ _ _)
      | (with_reducible exact ih10 _ _ _ _ _ _ _ _)
      | (with_reducible exact impl_CheckAwards.mono _ _ _ _)
      | (with_reducible exact impl_CheckShares.mono _ _ _ _)
      | (with_reducible exact impl_EqualAwards.mono _ _ _)
      | (with_reducible exact spec_A2Amounts.mono _ _)
      | (with_reducible exact spec_A2Same.mono _ _ _)
      | (with_reducible exact spec_EqualAwards.mono _ _ _)
      | (with_reducible exact LeO.refl _)
      | (with_reducible exact LeO.none _)
      | (with_reducible refine LeO.ite ?_ ?_)
      | (with_reducible refine LeO.bind ?_ (fun _ => ?_))
      | exact ih0 _ _ _ _ _
      | exact ih1 _ _ _ _ _ _ _
      | exact ih2 _ _ _
      | exact ih3 _ _ _ _ _
      | exact ih4 _ _ _ _ _ _
      | exact ih5 _ _ _ _ _ _ _
      | exact ih6 _ _ _ _ _ _ _
      | exact ih7 _ _ _ _ _ _ _
      | exact ih8 _ _ _ _ _ _ _
      | exact ih9 _ _ _ _ _ _ _ _
      | exact ih10 _ _ _ _ _ _ _ _
      | exact impl_CheckAwards.mono _ _ _ _
      | exact impl_CheckShares.mono _ _ _ _
      | exact impl_EqualAwards.mono _ _ _
      | exact spec_A2Amounts.mono _ _
      | exact spec_A2Same.mono _ _ _
      | exact spec_EqualAwards.mono _ _ _
      | exact LeO.none _
      | refine LeO.ite ?_ ?_
      | refine LeO.bind ?_ (fun _ => ?_)
    · intro y0 y1 y2 y3 y4 y5 y6 y7
      unfold laws_FnShares.l2
      repeat' first
      | (with_reducible exact ih0 _ _ _ _ _)
      | (with_reducible exact ih1 _ _ _ _ _ _ _)
      | (with_reducible exact ih2 _ _ _)
      | (with_reducible exact ih3 _ _ _ _ _)
      | (with_reducible exact ih4 _ _ _ _ _ _)
      | (with_reducible exact ih5 _ _ _ _ _ _ _)
      | (with_reducible exact ih6 _ _ _ _ _ _ _)
      | (with_reducible exact ih7 _ _ _ _ _ _ _)
      | (with_reducible exact ih8 _ _ _ _ _ _ _)
      | (with_reducible exact ih9 _ _ _ _ _ _ _ _)
      | (with_reducible exact ih10 _ _ _ _ _ _ _ _)
      | (with_reducible exact impl_CheckAwards.mono _ _ _ _)
      | (with_reducible exact impl_CheckShares.mono _ _ _ _)
      | (with_reducible exact impl_EqualAwards.mono _ _ _)
      | (with_reducible exact spec_A2Amounts.mono _ _)
      | (with_reducible exact spec_A2Same.mono _ _ _)
      | (with_reducible exact spec_EqualAwards.mono _ _ _)
      | (with_reducible exact LeO.refl _)
      | (with_reducible exact LeO.none _)
      | (with_reducible refine LeO.ite ?_ ?_)
      | (with_reducible refine LeO.bind ?_ (fun _ => ?_))
      | exact ih0 _ _ _ _ _
      | exact ih1 _ _ _ _ _ _ _
      | exact ih2 _ _ _
      | exact ih3 _ _ _ _ _
      | exact ih4 _ _ _ _ _ _
      | exact ih5 _ _ _ _ _ _ _
      | exact ih6 _ _ _ _ _ _ _
      | exact ih7 _ _ _ _ _ _ _
      | exact ih8 _ _ _ _ _ _ _
      | exact ih9 _ _ _ _ _ _ _ _
      | exact ih10 _ _ _ _ _ _ _ _
      | exact impl_CheckAwards.mono _ _ _ _
      | exact impl_CheckShares.mono _ _ _ _
      | exact impl_EqualAwards.mono _ _ _
      | exact spec_A2Amounts.mono _ _
      | exact spec_A2Same.mono _ _ _
      | exact spec_EqualAwards.mono _ _ _
      | exact LeO.none _
      | refine LeO.ite ?_ ?_
      | refine LeO.bind ?_ (fun _ => ?_)
theorem laws_FnShares.mono : ∀ a0 a1 k, LeO (laws_FnShares.f k a0 a1) (laws_FnShares.f (k + 1) a0 a1) := by
  intro a0 a1 k
  obtain ⟨ih0, ih1, ih2, ih3, ih4, ih5, ih6, ih7, ih8, ih9, ih10⟩ := laws_FnShares.mono_l k
  unfold laws_FnShares.f
  repeat' first
      | (with_reducible exact ih0 _ _ _ _ _)
      | (with_reducible exact ih1 _ _ _ _ _ _ _)
      | (with_reducible exact ih2 _ _ _)
      | (with_reducible exact ih3 _ _ _ _ _)
      | (with_reducible exact ih4 _ _ _ _ _ _)
      | (with_reducible exact ih5 _ _ _ _ _ _ _)
      | (with_reducible exact ih6 _ _ _ _ _ _ _)
      | (with_reducible exact ih7 _ _ _ _ _ _ _)
      | (with_reducible exact ih8 _ _ _ _ _ _ _)
      | (with_reducible exact ih9 _ _ _ _ _ _ _ _)
      | (with_reducible exact ih10 _ _ _ _ _ _ _ _)
      | (with_reducible exact impl_CheckAwards.mono _ _ _ _)
      | (with_reducible exact impl_CheckShares.mono _ _ _ _)
      | (with_reducible exact impl_EqualAwards.mono _ _ _)
      | (with_reducible exact spec_A2Amounts.mono _ _)
      | (with_reducible exact spec_A2Same.mono _ _ _)
      | (with_reducible exact spec_EqualAwards.mono _ _ _)
      | (with_reducible exact LeO.refl _)
      | (with_reducible exact LeO.none _)
      | (with_reducible refine LeO.ite ?_ ?_)
      | (with_reducible refine LeO.bind ?_ (fun _ => ?_))
      | exact ih0 _ _ _ _ _
      | exact ih1 _ _ _ _ _ _ _
      | exact ih2 _ _ _
      | exact ih3 _ _ _ _ _
      | exact ih4 _ _ _ _ _ _
      | exact ih5 _ _ _ _ _ _ _
      | exact ih6 _ _ _ _ _ _ _
      | exact ih7 _ _ _ _ _ _ _
      | exact ih8 _ _ _ _ _ _ _
      | exact ih9 _ _ _ _ _ _ _ _
      | exact ih10 _ _ _ _ _ _ _ _
      | exact impl_CheckAwards.mono _ _ _ _
      | exact impl_CheckShares.mono _ _ _ _
      | exact impl_EqualAwards.mono _ _ _
      | exact spec_A2Amounts.mono _ _
      | exact spec_A2Same.mono _ _ _
      | exact spec_EqualAwards.mono _ _ _
      | exact LeO.none _
      | refine LeO.ite ?_ ?_
      | refine LeO.bind ?_ (fun _ => ?_)
def laws_FnShares.Pure : Prop := ∀ (l0 : List Int) (l1 : List Int), l0.length ≤ maxLen → l0.length * 1 ≤ 140737488351232 → (∀ x ∈ l0, (Lit.int .u8 x).wf = true) → l1.length ≤ maxLen → l1.length * 1 ≤ 140737488351232 → (∀ x ∈ l1, (Lit.int .u8 x).wf = true) → ∃ k, laws_FnShares.f k l0 l1 = some true
end Go.Proofs.Ytgdkimdikalmkaa.PFnShares
