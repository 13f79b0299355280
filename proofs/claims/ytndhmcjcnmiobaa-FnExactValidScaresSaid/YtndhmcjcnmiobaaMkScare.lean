/- The marks that the law sets on a slice of Scarecrow and finds again; a slice equals itself. No program. No condition but a bound of the length. -/
import Derived.Test.YtndhmcjcnmiobaaPAllx1
import Derived.Test.YtndhmcjcnmiobaaPAllx2
import Derived.Test.YtndhmcjcnmiobaaGC
namespace Go.Proofs.Ytndhmcjcnmiobaa.PAll
open Go.RowKit Go.Proofs.YtndhmcjcnmiobaaW.PrintWords Go.Proofs.YtndhmcjcnmiobaaW.PrintLast Go.Proofs.YtndhmcjcnmiobaaW.PrintMore
set_option linter.unusedSimpArgs false
set_option linter.unusedVariables false

theorem rdset_Scarecrow (xs : List S61) (i : Int) (x : S61) (h0 : 0 ≤ i) (h : i < (xs.length : Int)) : rd_T61 (xs.set i.toNat x) i = x := by
  have : i.toNat < xs.length := by omega
  simp [rd_T61, List.getD_eq_getElem?_getD, List.getElem?_set, this]
theorem rdset_Scarecrow_ne (xs : List S61) (i j : Int) (x : S61) (h0 : 0 ≤ j) (h : j < i) : rd_T61 (xs.set i.toNat x) j = rd_T61 xs j := by
  have : i.toNat ≠ j.toNat := by omega
  simp [rd_T61, List.getD_eq_getElem?_getD, List.getElem?_set, this]

theorem eqOne_Scarecrow (x : S61) : laws_eqScarecrow.f x.f0 x.f1 x.f2 x.f0 x.f1 x.f2 = some true := by
  unfold laws_eqScarecrow.f
  simp
theorem eqs_Scarecrow (d : Nat) : ∀ (l : List S61) (i : Int), l.length ≤ 1048576 → 0 ≤ i → i + d = (l.length : Int) → laws_eqScarecrowS.l0 (d + 1) l l i = some true := by
  induction d with
  | zero =>
    intro l i hl hi he
    simp only [laws_eqScarecrowS.l0]
    rw [if_neg (by omega)]
  | succ d ih =>
    intro l i hl hi he
    have hlt : i < (l.length : Int) := by omega
    have wi : wrap64 (i + 1) = i + 1 := by unfold wrap64; omega
    have h1 := ih l (i + 1) hl (by omega) (by omega)
    generalize d + 1 = K at h1 ⊢
    simp only [laws_eqScarecrowS.l0]
    rw [if_pos hlt, if_pos hi, if_pos hlt, eqOne_Scarecrow]
    simp only [Option.bind_some, if_true, wi]
    exact h1
theorem eqSelf_Scarecrow (l : List S61) (h : l.length ≤ 1048576) : ∃ k, laws_eqScarecrowS.f k l l = some true :=
  ⟨l.length + 1, by unfold laws_eqScarecrowS.f; rw [if_pos rfl]; exact eqs_Scarecrow l.length l 0 h (by omega) (by omega)⟩

/-! The same of slices of the call's own -/
section
variable {w0 w : World} {b0 b1 : Nat} {ok0 ok1 : Nat → Prop} {A0 A1 : Option Addr} {c0 c1 k n : Nat} {m : Int} {v : Value} {xs ys : List S61}
theorem eqO_Scarecrow (h0 : Kd.R k61 61 w b0 ok0 (.slice A0 xs.length c0) xs) (h1 : Kd.R k61 61 w b1 ok1 (.slice A1 xs.length c1) xs) (hl : xs.length ≤ 1048576) :
    Calls Try.prog 14 #[.slice A0 xs.length c0, .slice A1 xs.length c1] w fun e w' => e = .returned (.bool true) ∧ Below w.heap.size w w' := by
  obtain ⟨k, hk⟩ := eqSelf_Scarecrow xs hl
  exact laws_eqScarecrowS.calls k A0 c0 xs A1 c1 xs true w (Kd.R_reads' h0).2.2 (Kd.R_reads' h0).2.1 (Kd.R_reads' h1).2.2 (Kd.R_reads' h1).2.1 hk
end
end Go.Proofs.Ytndhmcjcnmiobaa.PAll
