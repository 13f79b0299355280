/- The marks that the law sets on a slice of Plot and finds again; a slice equals itself. No program. No condition but a bound of the length. -/
import Derived.Test.YtlhiaofanejcoaaPAllx1
import Derived.Test.YtlhiaofanejcoaaPAllx2
import Derived.Test.YtlhiaofanejcoaaPAllx3
import Derived.Test.YtlhiaofanejcoaaPAllx4
import Derived.Test.YtlhiaofanejcoaaO
namespace Go.Proofs.Ytlhiaofanejcoaa.PAll
open Go.RowKit Go.Proofs.YtlhiaofanejcoaaW.PrintWords Go.Proofs.YtlhiaofanejcoaaW.PrintLast Go.Proofs.YtlhiaofanejcoaaW.PrintMore
set_option linter.unusedSimpArgs false
set_option linter.unusedVariables false

theorem rdset_Plot (xs : List S112) (i : Int) (x : S112) (h0 : 0 ≤ i) (h : i < (xs.length : Int)) : rd_T112 (xs.set i.toNat x) i = x := by
  have : i.toNat < xs.length := by omega
  simp [rd_T112, List.getD_eq_getElem?_getD, List.getElem?_set, this]
theorem rdset_Plot_ne (xs : List S112) (i j : Int) (x : S112) (h0 : 0 ≤ j) (h : j < i) : rd_T112 (xs.set i.toNat x) j = rd_T112 xs j := by
  have : i.toNat ≠ j.toNat := by omega
  simp [rd_T112, List.getD_eq_getElem?_getD, List.getElem?_set, this]

theorem mark_Plot (d : Nat) : ∀ (l : List S112) (c i : Int), l.length ≤ 1048576 → 0 ≤ c → c + 4 * (d : Int) ≤ 9000000 → 0 ≤ i → i + d = (l.length : Int) →
    ∃ m l', laws_markPlotS.l0 (d + 1) l c i = some (m, l') ∧ l'.length = l.length ∧ (∀ j : Int, 0 ≤ j → j < i → rd_T112 l' j = rd_T112 l j) ∧ laws_heldPlotS.l0 (d + 1) l' c i = some m ∧ c ≤ m := by
  induction d with
  | zero =>
    intro l c i hn hc hb hi he
    refine ⟨c, l, ?_, rfl, fun _ _ _ => rfl, ?_, Int.le_refl _⟩
    · simp only [laws_markPlotS.l0]
      rw [if_neg (by omega)]
    · simp only [laws_heldPlotS.l0]
      rw [if_neg (by omega)]
  | succ d ih =>
    intro l c i hn hc hb hi he
    have hlt : i < (l.length : Int) := by omega
    have w1 : wrap64 (c + 1) = c + 1 := by unfold wrap64; omega
    have w2 : wrap64 (c + 2) = c + 2 := by unfold wrap64; omega
    have w3 : wrap64 (c + 3) = c + 3 := by unfold wrap64; omega
    have w4 : wrap64 (c + 4) = c + 4 := by unfold wrap64; omega
    have v2 : wrap64 (c + 1 + 1) = c + 2 := by unfold wrap64; omega
    have v3 : wrap64 (c + 2 + 1) = c + 3 := by unfold wrap64; omega
    have v4 : wrap64 (c + 3 + 1) = c + 4 := by unfold wrap64; omega
    have wi : wrap64 (i + 1) = i + 1 := by unfold wrap64; omega
    obtain ⟨m, l', h1, h2, h3, h4, h5⟩ := ih (l.set i.toNat ⟨IntKind.i16.wrap (c), IntKind.i16.wrap (c + 1), IntKind.i16.wrap (c + 2), IntKind.i16.wrap (c + 3)⟩) (c + 4) (i + 1) (by rw [List.length_set]; exact hn) (by omega) (by omega) (by omega) (by rw [List.length_set]; omega)
    have e1 : rd_T112 l' i = ⟨IntKind.i16.wrap (c), IntKind.i16.wrap (c + 1), IntKind.i16.wrap (c + 2), IntKind.i16.wrap (c + 3)⟩ := by rw [h3 i hi (by omega), rdset_Plot l i _ hi hlt]
    rw [List.length_set] at h2
    generalize d + 1 = K at h1 h4 ⊢
    refine ⟨m, l', ?_, h2, fun j hj hji => ?_, ?_, by omega⟩
    · simp only [laws_markPlotS.l0]
      rw [if_pos hlt, if_pos hi]
      simp only [Option.bind_some, rdset_Plot _ _ _ hi, List.length_set, hlt, List.set_set, w1, w2, w3, w4, v2, v3, v4, wi]
      exact h1
    · rw [h3 j hj (by omega), rdset_Plot_ne l i j _ hj hji]
    · simp only [laws_heldPlotS.l0]
      rw [if_pos (by rw [h2]; exact hlt), if_pos hi, e1]
      simp only [w1, w2, w3, w4, v2, v3, v4, wi, if_true]
      exact h4

theorem marks_Plot (l : List S112) (h : l.length ≤ 1048576) : ∃ k m l', laws_markPlotS.f k l 1 = some (m, l') ∧ l'.length = l.length ∧ laws_heldPlotS.f k l' 1 = some m ∧ 1 ≤ m := by
  obtain ⟨m, l', h1, h2, _, h4, h5⟩ := mark_Plot l.length l 1 0 h (by omega) (by omega) (by omega) (by omega)
  exact ⟨l.length + 1, m, l', h1, h2, h4, h5⟩

theorem eqOne_Plot (x : S112) : laws_eqPlot.f x.f0 x.f1 x.f2 x.f3 x.f0 x.f1 x.f2 x.f3 = some true := by
  unfold laws_eqPlot.f
  simp
theorem eqs_Plot (d : Nat) : ∀ (l : List S112) (i : Int), l.length ≤ 1048576 → 0 ≤ i → i + d = (l.length : Int) → laws_eqPlotS.l0 (d + 1) l l i = some true := by
  induction d with
  | zero =>
    intro l i hl hi he
    simp only [laws_eqPlotS.l0]
    rw [if_neg (by omega)]
  | succ d ih =>
    intro l i hl hi he
    have hlt : i < (l.length : Int) := by omega
    have wi : wrap64 (i + 1) = i + 1 := by unfold wrap64; omega
    have h1 := ih l (i + 1) hl (by omega) (by omega)
    generalize d + 1 = K at h1 ⊢
    simp only [laws_eqPlotS.l0]
    rw [if_pos hlt, if_pos hi, if_pos hlt, eqOne_Plot]
    simp only [Option.bind_some, if_true, wi]
    exact h1
theorem eqSelf_Plot (l : List S112) (h : l.length ≤ 1048576) : ∃ k, laws_eqPlotS.f k l l = some true :=
  ⟨l.length + 1, by unfold laws_eqPlotS.f; rw [if_pos rfl]; exact eqs_Plot l.length l 0 h (by omega) (by omega)⟩

/-! The same of slices of the call's own -/
section
variable {w0 w : World} {b0 b1 : Nat} {ok0 ok1 : Nat → Prop} {A0 A1 : Option Addr} {c0 c1 k n : Nat} {m : Int} {v : Value} {xs ys : List S112}
theorem eqO_Plot (h0 : Kd.R k112 112 w b0 ok0 (.slice A0 xs.length c0) xs) (h1 : Kd.R k112 112 w b1 ok1 (.slice A1 xs.length c1) xs) (hl : xs.length ≤ 1048576) :
    Calls Try.prog 50 #[.slice A0 xs.length c0, .slice A1 xs.length c1] w fun e w' => e = .returned (.bool true) ∧ Below w.heap.size w w' := by
  obtain ⟨k, hk⟩ := eqSelf_Plot xs hl
  exact laws_eqPlotS.calls k A0 c0 xs A1 c1 xs true w (Kd.R_reads' h0).2.2 (Kd.R_reads' h0).2.1 (Kd.R_reads' h1).2.2 (Kd.R_reads' h1).2.1 hk
theorem markO_Plot (hB : Below w0.heap.size w0 w) (h : Ow k112 112 w0 w v xs) (hm : laws_markPlotS.f k xs 1 = some (m, ys)) :
    Calls Try.prog 51 #[v, .int .i64 1] w fun e w' => e = .returned (.int .i64 m) ∧ Ow k112 112 w0 w' v ys ∧ Below w0.heap.size w0 w' ∧ Go.Proofs.YtlhiaofanejcoaaW.PrintWords.Kept w w' (fun k => some k = v.ownBlock) :=
  (laws_markPlotS.calls k _ v xs 1 m ys w0 w hB h hm).mono fun e w' ⟨he, hr, hb, hk⟩ => ⟨he, ow_tight rfl hr, hb, hk⟩
theorem heldO_Plot (hn : n = ys.length) (h : Kd.R k112 112 w b0 ok0 (.slice A0 n c0) ys) (hm : laws_heldPlotS.f k ys 1 = some m) :
    Calls Try.prog 52 #[.slice A0 n c0, .int .i64 1] w fun e w' => e = .returned (.int .i64 m) ∧ Below w.heap.size w w' := by
  subst hn
  exact (laws_heldPlotS.calls k A0 c0 ys 1 m w (Kd.R_reads' h).2.2 (Kd.R_reads' h).2.1 hm).mono fun e w' ⟨he, hb⟩ => ⟨he, hb.below⟩
end
end Go.Proofs.Ytlhiaofanejcoaa.PAll
