/- A slice of whole numbers equals itself; the law's copy and marks of it. No program. No condition but a bound of the length. -/
import Derived.Test.YtinpmhmagcmamaaPAllx8
import Derived.Test.YtinpmhmagcmamaaPAllx9
import Derived.Test.YtinpmhmagcmamaaGC
import Derived.Test.YtinpmhmagcmamaaGB
namespace Go.Proofs.Ytinpmhmagcmamaa.PAll
open Go.RowKit Go.Proofs.YtinpmhmagcmamaaW.PrintWords Go.Proofs.YtinpmhmagcmamaaW.PrintLast Go.Proofs.YtinpmhmagcmamaaW.PrintMore
set_option linter.unusedSimpArgs false
set_option linter.unusedVariables false

theorem eqs_Int (d : Nat) : ∀ (l : List Int) (i : Int), l.length ≤ 1048576 → 0 ≤ i → i + d = (l.length : Int) → laws_eqInt64S.l0 (d + 1) l l i = some true := by
  induction d with
  | zero =>
    intro l i hl hi he
    simp only [laws_eqInt64S.l0]
    rw [if_neg (by omega)]
  | succ d ih =>
    intro l i hl hi he
    have hlt : i < (l.length : Int) := by omega
    have wi : wrap64 (i + 1) = i + 1 := by unfold wrap64; omega
    have h1 := ih l (i + 1) hl (by omega) (by omega)
    generalize d + 1 = K at h1 ⊢
    simp only [laws_eqInt64S.l0]
    rw [if_pos hlt, if_pos hi, if_pos hlt, if_pos trivial, wi]
    exact h1
theorem eqSelf_Int (l : List Int) (h : l.length ≤ 1048576) : ∃ k, laws_eqInt64S.f k l l = some true :=
  ⟨l.length + 1, by unfold laws_eqInt64S.f; rw [if_pos rfl]; exact eqs_Int l.length l 0 h (by omega) (by omega)⟩
section
variable {w0 w : World} {b0 b1 : Nat} {ok0 ok1 : Nat → Prop} {A0 A1 : Option Addr} {c0 c1 k n : Nat} {m : Int} {v : Value} {xs ys : List Int}
theorem eqO_Int (h0 : Kd.R (Kd.int .i64) 2 w b0 ok0 (.slice A0 xs.length c0) xs) (h1 : Kd.R (Kd.int .i64) 2 w b1 ok1 (.slice A1 xs.length c1) xs) (hl : xs.length ≤ 1048576) :
    Calls Try.prog 8 #[.slice A0 xs.length c0, .slice A1 xs.length c1] w fun e w' => e = .returned (.bool true) ∧ Below w.heap.size w w' := by
  obtain ⟨k, hk⟩ := eqSelf_Int xs hl
  exact (laws_eqInt64S.calls k A0 c0 xs A1 c1 xs true w (Kd.R_reads' h0).2.2 (Kd.R_reads' h0).2.1 (Kd.R_reads' h1).2.2 (Kd.R_reads' h1).2.1 hk).mono fun e w' ⟨he, hb⟩ => ⟨he, hb.below⟩
end
theorem toInt64S_l (l : List Int) (hn : l.length ≤ 1048576) (d : Nat) : ∀ (x : List Int) (i : Int), 0 ≤ i → i + d = (l.length : Int) → x.length = l.length → (∀ j : Nat, (j : Int) < i → x[j]? = l[j]?) →
    laws_toInt64S.l0 (d + 1) l x i = some l := by
  induction d with
  | zero =>
    intro x i hi he hl hx
    simp only [laws_toInt64S.l0]
    rw [if_neg (by omega)]
    congr 1
    refine List.ext_getElem? fun j => ?_
    rcases Nat.lt_or_ge j l.length with h | h
    · exact hx j (by omega)
    · rw [List.getElem?_eq_none (by omega), List.getElem?_eq_none h]
  | succ d ih =>
    intro x i hi he hl hx
    have hlt : i < (l.length : Int) := by omega
    have wi : wrap64 (i + 1) = i + 1 := by unfold wrap64; omega
    have h1 := ih (x.set i.toNat (rd l i)) (i + 1) (by omega) (by omega) (by rw [List.length_set]; exact hl) (fun j hj => by
      by_cases e : j = i.toNat
      · have hlj : j < l.length := by omega
        rw [e, List.getElem?_set, if_pos rfl, if_pos (by omega), ← e]
        simp [rd, List.getD_eq_getElem?_getD, show i.toNat = j from e.symm, List.getElem?_eq_getElem hlj]
      · rw [List.getElem?_set, if_neg (fun h => e h.symm)]
        exact hx j (by omega))
    generalize d + 1 = K at h1 ⊢
    simp only [laws_toInt64S.l0]
    rw [if_pos hlt, if_pos hi, if_pos (by omega), wi]
    exact h1
theorem toInt64S_any {w : World} {A : Option Addr} {c : Nat} (l : List Int) (hC : Kd.C (Kd.int .i64) w A l.length l) (hn : l.length ≤ 1048576) (hc : l.length ≤ c) :
    Calls Try.prog 12 #[.slice A l.length c] w fun e w' => ∃ v : Value, e = .returned v ∧ Kd.R (Kd.int .i64) 2 w' w.heap.size (fun _ => True) v l ∧ Below w.heap.size w w' :=
  laws_toInt64S.calls (l.length + 1) A c l l w hC hc (by
    unfold laws_toInt64S.f
    rw [if_pos (by omega), if_pos (by omega)]
    exact toInt64S_l l hn l.length _ 0 (by omega) (by omega) (by simp) (fun j hj => by omega))

theorem rdset_Int (xs : List Int) (i : Int) (x : Int) (h0 : 0 ≤ i) (h : i < (xs.length : Int)) : rd (xs.set i.toNat x) i = x := by
  have : i.toNat < xs.length := by omega
  simp [rd, List.getD_eq_getElem?_getD, List.getElem?_set, this]
theorem rdset_Int_ne (xs : List Int) (i j : Int) (x : Int) (h0 : 0 ≤ j) (h : j < i) : rd (xs.set i.toNat x) j = rd xs j := by
  have : i.toNat ≠ j.toNat := by omega
  simp [rd, List.getD_eq_getElem?_getD, List.getElem?_set, this]

theorem mark_Int (d : Nat) : ∀ (l : List Int) (c i : Int), l.length ≤ 1048576 → 0 ≤ c → c + (d : Int) ≤ 9000000 → 0 ≤ i → i + d = (l.length : Int) →
    ∃ m l', laws_markInt64S.l0 (d + 1) l c i = some (m, l') ∧ l'.length = l.length ∧ (∀ j : Int, 0 ≤ j → j < i → rd l' j = rd l j) ∧ laws_heldInt64S.l0 (d + 1) l' c i = some m ∧ m = c + (d : Int) := by
  induction d with
  | zero =>
    intro l c i hn hc hb hi he
    refine ⟨c, l, ?_, rfl, fun _ _ _ => rfl, ?_, by simp⟩
    · simp only [laws_markInt64S.l0]
      rw [if_neg (by omega)]
    · simp only [laws_heldInt64S.l0]
      rw [if_neg (by omega)]
  | succ d ih =>
    intro l c i hn hc hb hi he
    have hlt : i < (l.length : Int) := by omega
    have w1 : wrap64 (c + 1) = c + 1 := by unfold wrap64; omega
    have wi : wrap64 (i + 1) = i + 1 := by unfold wrap64; omega
    obtain ⟨m, l', h1, h2, h3, h4, h5⟩ := ih (l.set i.toNat c) (c + 1) (i + 1) (by rw [List.length_set]; exact hn) (by omega) (by omega) (by omega) (by rw [List.length_set]; omega)
    have e1 : rd l' i = c := by rw [h3 i hi (by omega), rdset_Int l i _ hi hlt]
    rw [List.length_set] at h2
    have h6 : m = c + ((d + 1 : Nat) : Int) := by omega
    clear h5
    generalize d + 1 = K at h1 h4 h6 ⊢
    refine ⟨m, l', ?_, h2, fun j hj hji => ?_, ?_, h6⟩
    · simp only [laws_markInt64S.l0]
      rw [if_pos hlt, if_pos hi, w1, wi]
      exact h1
    · rw [h3 j hj (by omega), rdset_Int_ne l i j _ hj hji]
    · simp only [laws_heldInt64S.l0]
      rw [if_pos (by rw [h2]; exact hlt), if_pos hi, e1, if_pos rfl, w1, wi]
      exact h4
theorem marks_Int (l : List Int) (h : l.length ≤ 1048576) : ∃ k m l', laws_markInt64S.f k l 1 = some (m, l') ∧ l'.length = l.length ∧ laws_heldInt64S.f k l' 1 = some m ∧ m = 1 + (l.length : Int) := by
  obtain ⟨m, l', h1, h2, _, h4, h5⟩ := mark_Int l.length l 1 0 h (by omega) (by omega) (by omega) (by omega)
  exact ⟨l.length + 1, m, l', h1, h2, h4, h5⟩
theorem marksAt_Int (l : List Int) (c : Int) (hc : 0 ≤ c) (hb : c ≤ 6000000) (h : l.length ≤ 1048576) : ∃ k m l', laws_markInt64S.f k l c = some (m, l') ∧ l'.length = l.length ∧ laws_heldInt64S.f k l' c = some m ∧ m = c + (l.length : Int) := by
  obtain ⟨m, l', h1, h2, _, h4, h5⟩ := mark_Int l.length l c 0 h hc (by omega) (by omega) (by omega)
  exact ⟨l.length + 1, m, l', h1, h2, h4, h5⟩
section
variable {w0 w : World} {b0 b1 : Nat} {ok0 ok1 : Nat → Prop} {A0 A1 : Option Addr} {c0 c1 k n : Nat} {m cs : Int} {v : Value} {xs ys : List Int}
theorem markO_Int (hB : Below w0.heap.size w0 w) (h : Ow (Kd.int .i64) 2 w0 w v xs) (hm : laws_markInt64S.f k xs cs = some (m, ys)) :
    Calls Try.prog 9 #[v, .int .i64 cs] w fun e w' => e = .returned (.int .i64 m) ∧ Ow (Kd.int .i64) 2 w0 w' v ys ∧ Below w0.heap.size w0 w' ∧ Go.Proofs.YtinpmhmagcmamaaW.PrintWords.Kept w w' (fun k => some k = v.ownBlock) :=
  (laws_markInt64S.calls k _ v xs cs m ys w0 w hB h hm).mono fun e w' ⟨he, hr, hb, hk⟩ => ⟨he, ow_tight rfl hr, hb, hk⟩
theorem heldO_Int (hn : n = ys.length) (h : Kd.R (Kd.int .i64) 2 w b0 ok0 (.slice A0 n c0) ys) (hm : laws_heldInt64S.f k ys cs = some m) :
    Calls Try.prog 10 #[.slice A0 n c0, .int .i64 cs] w fun e w' => e = .returned (.int .i64 m) ∧ Below w.heap.size w w' := by
  subst hn
  exact (laws_heldInt64S.calls k A0 c0 ys cs m w (Kd.R_reads' h).2.2 (Kd.R_reads' h).2.1 hm).mono fun e w' ⟨he, hb⟩ => ⟨he, hb.below⟩
end
end Go.Proofs.Ytinpmhmagcmamaa.PAll
