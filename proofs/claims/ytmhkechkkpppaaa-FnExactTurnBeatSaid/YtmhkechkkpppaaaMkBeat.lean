/- A beat equals itself; the law's copy of a beat. No program. No condition but a bound of the length. -/
import Derived.Test.YtmhkechkkpppaaaPAllx1
import Derived.Test.YtmhkechkkpppaaaPAllx2
import Derived.Test.YtmhkechkkpppaaaPAllx3
import Derived.Test.YtmhkechkkpppaaaGC
import Derived.Test.YtmhkechkkpppaaaGB
namespace Go.Proofs.Ytmhkechkkpppaaa.PAll
open Go.RowKit Go.Proofs.YtmhkechkkpppaaaW.PrintWords Go.Proofs.YtmhkechkkpppaaaW.PrintLast Go.Proofs.YtmhkechkkpppaaaW.PrintMore
set_option linter.unusedSimpArgs false
set_option linter.unusedVariables false

theorem eqs_Beat (d : Nat) : ∀ (l : List Int) (i : Int), l.length ≤ 1048576 → 0 ≤ i → i + d = (l.length : Int) → laws_eqBeat.l0 (d + 1) l l i = some true := by
  induction d with
  | zero =>
    intro l i hl hi he
    simp only [laws_eqBeat.l0]
    rw [if_neg (by omega)]
  | succ d ih =>
    intro l i hl hi he
    have hlt : i < (l.length : Int) := by omega
    have wi : wrap64 (i + 1) = i + 1 := by unfold wrap64; omega
    have h1 := ih l (i + 1) hl (by omega) (by omega)
    generalize d + 1 = K at h1 ⊢
    simp only [laws_eqBeat.l0]
    rw [if_pos hlt, if_pos hi, if_pos hlt, if_pos trivial, wi]
    exact h1
theorem eqSelf_Beat (l : List Int) (h : l.length ≤ 1048576) : ∃ k, laws_eqBeat.f k l l = some true :=
  ⟨l.length + 1, by unfold laws_eqBeat.f; rw [if_pos rfl]; exact eqs_Beat l.length l 0 h (by omega) (by omega)⟩
section
variable {w0 w : World} {b0 b1 : Nat} {ok0 ok1 : Nat → Prop} {A0 A1 : Option Addr} {c0 c1 k n : Nat} {m : Int} {v : Value} {xs ys : List Int}
theorem eqO_Beat (h0 : Kd.R (Kd.int .i16) 24 w b0 ok0 (.slice A0 xs.length c0) xs) (h1 : Kd.R (Kd.int .i16) 24 w b1 ok1 (.slice A1 xs.length c1) xs) (hl : xs.length ≤ 1048576) :
    Calls Try.prog 17 #[.slice A0 xs.length c0, .slice A1 xs.length c1] w fun e w' => e = .returned (.bool true) ∧ Below w.heap.size w w' := by
  obtain ⟨k, hk⟩ := eqSelf_Beat xs hl
  exact (laws_eqBeat.calls k A0 c0 xs A1 c1 xs true w (Kd.R_reads' h0).2.2 (Kd.R_reads' h0).2.1 (Kd.R_reads' h1).2.2 (Kd.R_reads' h1).2.1 hk).mono fun e w' ⟨he, hb⟩ => ⟨he, hb.below⟩
end
theorem toBeat_l (l : List Int) (hn : l.length ≤ 1048576) (d : Nat) : ∀ (x : List Int) (i : Int), 0 ≤ i → i + d = (l.length : Int) → x.length = l.length → (∀ j : Nat, (j : Int) < i → x[j]? = l[j]?) →
    laws_toBeat.l0 (d + 1) l x i = some l := by
  induction d with
  | zero =>
    intro x i hi he hl hx
    simp only [laws_toBeat.l0]
    rw [if_neg (by omega)]
    congr 1
    refine List.ext_getElem? fun j => ?_
    rcases Nat.lt_or_ge j l.length with h | h
    · exact hx j (by omega)
    · rw [List.getElem?_eq_none (by omega), List.getElem?_eq_none h]
  | succ d ih =>
    intro x i hi he hl hx
    have hlt : i < (l.length : Int) := by omega
    have wi : wrap64 (i + 1) = i + 1 := by unfold wrap64; omega
    have h1 := ih (x.set i.toNat (rd l i)) (i + 1) (by omega) (by omega) (by rw [List.length_set]; exact hl) (fun j hj => by
      by_cases e : j = i.toNat
      · have hlj : j < l.length := by omega
        rw [e, List.getElem?_set, if_pos rfl, if_pos (by omega), ← e]
        simp [rd, List.getD_eq_getElem?_getD, show i.toNat = j from e.symm, List.getElem?_eq_getElem hlj]
      · rw [List.getElem?_set, if_neg (fun h => e h.symm)]
        exact hx j (by omega))
    generalize d + 1 = K at h1 ⊢
    simp only [laws_toBeat.l0]
    rw [if_pos hlt, if_pos hi, if_pos (by omega), wi]
    exact h1
theorem toBeat_any {w : World} {A : Option Addr} {c : Nat} (l : List Int) (hC : Kd.C (Kd.int .i16) w A l.length l) (hn : l.length ≤ 1048576) (hc : l.length ≤ c) :
    Calls Try.prog 15 #[.slice A l.length c] w fun e w' => ∃ v : Value, e = .returned v ∧ Kd.R (Kd.int .i16) 24 w' w.heap.size (fun _ => True) v l ∧ Below w.heap.size w w' :=
  laws_toBeat.calls (l.length + 1) A c l l w hC hc (by
    unfold laws_toBeat.f
    rw [if_pos (by omega), if_pos (by omega)]
    exact toBeat_l l hn l.length _ 0 (by omega) (by omega) (by simp) (fun j hj => by omega))
theorem btOk_of {l : List Int} (h : ∀ x ∈ l, (Lit.int .i16 x).wf = true) (i : Nat) (hi : i < l.length) : -32768 ≤ rd l (i : Int) ∧ rd l (i : Int) ≤ 32767 := by
  have e : rd l (i : Int) = l[i] := by simp [rd, List.getD_eq_getElem?_getD, List.getElem?_eq_getElem hi]
  have h1 := h _ (List.getElem_mem hi)
  rw [e]
  exact ⟨(wf_i16 h1).1, (wf_i16 h1).2⟩
end Go.Proofs.Ytmhkechkkpppaaa.PAll
