/- The law's marks of a beat. No program. No condition but a bound of the length. -/
import Derived.Test.YtmhkechkkpppaaaPAllx1
import Derived.Test.YtmhkechkkpppaaaPAllx2
import Derived.Test.YtmhkechkkpppaaaPAllx3
import Derived.Test.YtmhkechkkpppaaaGC
import Derived.Test.YtmhkechkkpppaaaGB
import Derived.Test.YtmhkechkkpppaaaMkBeat
namespace Go.Proofs.Ytmhkechkkpppaaa.PAll
open Go.RowKit Go.Proofs.YtmhkechkkpppaaaW.PrintWords Go.Proofs.YtmhkechkkpppaaaW.PrintLast Go.Proofs.YtmhkechkkpppaaaW.PrintMore
set_option linter.unusedSimpArgs false
set_option linter.unusedVariables false


theorem rdset_Beat (xs : List Int) (i : Int) (x : Int) (h0 : 0 ≤ i) (h : i < (xs.length : Int)) : rd (xs.set i.toNat x) i = x := by
  have : i.toNat < xs.length := by omega
  simp [rd, List.getD_eq_getElem?_getD, List.getElem?_set, this]
theorem rdset_Beat_ne (xs : List Int) (i j : Int) (x : Int) (h0 : 0 ≤ j) (h : j < i) : rd (xs.set i.toNat x) j = rd xs j := by
  have : i.toNat ≠ j.toNat := by omega
  simp [rd, List.getD_eq_getElem?_getD, List.getElem?_set, this]

theorem mark_Beat (d : Nat) : ∀ (l : List Int) (c i : Int), l.length ≤ 1048576 → 0 ≤ c → c + (d : Int) ≤ 9000000 → 0 ≤ i → i + d = (l.length : Int) →
    ∃ m l', laws_markBeat.l0 (d + 1) l c i = some (m, l') ∧ l'.length = l.length ∧ (∀ j : Int, 0 ≤ j → j < i → rd l' j = rd l j) ∧ laws_heldBeat.l0 (d + 1) l' c i = some m ∧ m = c + (d : Int) := by
  induction d with
  | zero =>
    intro l c i hn hc hb hi he
    refine ⟨c, l, ?_, rfl, fun _ _ _ => rfl, ?_, by simp⟩
    · simp only [laws_markBeat.l0]
      rw [if_neg (by omega)]
    · simp only [laws_heldBeat.l0]
      rw [if_neg (by omega)]
  | succ d ih =>
    intro l c i hn hc hb hi he
    have hlt : i < (l.length : Int) := by omega
    have w1 : wrap64 (c + 1) = c + 1 := by unfold wrap64; omega
    have wi : wrap64 (i + 1) = i + 1 := by unfold wrap64; omega
    obtain ⟨m, l', h1, h2, h3, h4, h5⟩ := ih (l.set i.toNat (IntKind.i16.wrap (c))) (c + 1) (i + 1) (by rw [List.length_set]; exact hn) (by omega) (by omega) (by omega) (by rw [List.length_set]; omega)
    have e1 : rd l' i = (IntKind.i16.wrap (c)) := by rw [h3 i hi (by omega), rdset_Beat l i _ hi hlt]
    rw [List.length_set] at h2
    have h6 : m = c + ((d + 1 : Nat) : Int) := by omega
    clear h5
    generalize d + 1 = K at h1 h4 h6 ⊢
    refine ⟨m, l', ?_, h2, fun j hj hji => ?_, ?_, h6⟩
    · simp only [laws_markBeat.l0]
      rw [if_pos hlt, if_pos hi, w1, wi]
      exact h1
    · rw [h3 j hj (by omega), rdset_Beat_ne l i j _ hj hji]
    · simp only [laws_heldBeat.l0]
      rw [if_pos (by rw [h2]; exact hlt), if_pos hi, e1, if_pos rfl, w1, wi]
      exact h4
theorem marks_Beat (l : List Int) (h : l.length ≤ 1048576) : ∃ k m l', laws_markBeat.f k l 1 = some (m, l') ∧ l'.length = l.length ∧ laws_heldBeat.f k l' 1 = some m ∧ m = 1 + (l.length : Int) := by
  obtain ⟨m, l', h1, h2, _, h4, h5⟩ := mark_Beat l.length l 1 0 h (by omega) (by omega) (by omega) (by omega)
  exact ⟨l.length + 1, m, l', h1, h2, h4, h5⟩
theorem marksAt_Beat (l : List Int) (c : Int) (hc : 0 ≤ c) (hb : c ≤ 6000000) (h : l.length ≤ 1048576) : ∃ k m l', laws_markBeat.f k l c = some (m, l') ∧ l'.length = l.length ∧ laws_heldBeat.f k l' c = some m ∧ m = c + (l.length : Int) := by
  obtain ⟨m, l', h1, h2, _, h4, h5⟩ := mark_Beat l.length l c 0 h hc (by omega) (by omega) (by omega)
  exact ⟨l.length + 1, m, l', h1, h2, h4, h5⟩
section
variable {w0 w : World} {b0 b1 : Nat} {ok0 ok1 : Nat → Prop} {A0 A1 : Option Addr} {c0 c1 k n : Nat} {m cs : Int} {v : Value} {xs ys : List Int}
theorem markO_Beat (hB : Below w0.heap.size w0 w) (h : Ow (Kd.int .i16) 24 w0 w v xs) (hm : laws_markBeat.f k xs cs = some (m, ys)) :
    Calls Try.prog 18 #[v, .int .i64 cs] w fun e w' => e = .returned (.int .i64 m) ∧ Ow (Kd.int .i16) 24 w0 w' v ys ∧ Below w0.heap.size w0 w' ∧ Go.Proofs.YtmhkechkkpppaaaW.PrintWords.Kept w w' (fun k => some k = v.ownBlock) :=
  (laws_markBeat.calls k _ v xs cs m ys w0 w hB h hm).mono fun e w' ⟨he, hr, hb, hk⟩ => ⟨he, ow_tight rfl hr, hb, hk⟩
theorem heldO_Beat (hn : n = ys.length) (h : Kd.R (Kd.int .i16) 24 w b0 ok0 (.slice A0 n c0) ys) (hm : laws_heldBeat.f k ys cs = some m) :
    Calls Try.prog 19 #[.slice A0 n c0, .int .i64 cs] w fun e w' => e = .returned (.int .i64 m) ∧ Below w.heap.size w w' := by
  subst hn
  exact (laws_heldBeat.calls k A0 c0 ys cs m w (Kd.R_reads' h).2.2 (Kd.R_reads' h).2.1 hm).mono fun e w' ⟨he, hb⟩ => ⟨he, hb.below⟩
end
end Go.Proofs.Ytmhkechkkpppaaa.PAll
