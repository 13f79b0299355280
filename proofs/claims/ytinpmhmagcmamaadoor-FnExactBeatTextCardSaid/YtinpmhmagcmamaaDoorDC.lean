/- A small number in decimal; strings joined: by the library's functions. No condition but those that each theorem names. -/
import Derived.Test.YtinpmhmagcmamaaDoorSh
import Derived.Test.YtinpmhmagcmamaaDoorWWords
import Derived.Test.YtinpmhmagcmamaaDoorWMore
import Derived.Test.YtinpmhmagcmamaaDoorWLast
import Derived.WalkKit
import Derived.KernelRfl
namespace Go.Proofs.YtinpmhmagcmamaaDoor
open Go.RowKit Go.Proofs.YtinpmhmagcmamaaDoorW.PrintWords Go.Proofs.YtinpmhmagcmamaaDoorW.PrintLast Go.Proofs.YtinpmhmagcmamaaDoorW.PrintMore
set_option linter.unusedSimpArgs false
set_option linter.unusedVariables false

def dec (i : Int) : ByteArray := ⟨(Lib.decDigits i.toNat).toArray⟩
def joined (l : List ByteArray) (sep : ByteArray) : ByteArray := ⟨(Lib.join (l.map (·.data.toList)) sep.data.toList).toArray⟩
theorem decimal_any (i : Int) (h0 : 0 ≤ i) (h1 : i < 100) (w : World) : Calls Tryd.prog 16 #[.int .i16 i] w fun e w' => e = .returned (.string (dec i)) ∧ Below w.heap.size w w' := by
  have e : wrap64 i = i := by unfold wrap64; omega
  have hc := Tryd.strconv_FormatInt_10_small i.toNat (by omega)
  rw [Int.toNat_of_nonneg h0] at hc
  go_enter Tryd.func16, Tryd.ntmps16
  go_wp2_with (go_at_call 23; refine (hc _).mono ?_; rintro e w' ⟨rfl, rfl⟩)
  go_ret
  exact ⟨rfl, by repeat (first | (with_reducible first | exact Below.refl _ _ | apply below_alloc | apply pw_below_drewN | apply below_drew1))⟩
theorem join_any (A : Option Addr) (c : Nat) (l : List ByteArray) (sep : ByteArray) (w : World) (hr : Kd.C Kd.string w A l.length l) (hc : l.length ≤ c) (hn : l.length ≤ 1000000) (hl : (joined l sep).size ≤ 140737488355328) :
    Calls Tryd.prog 17 #[.slice A l.length c, .string sep] w fun e w' => e = .returned (.string (joined l sep)) ∧ Below w.heap.size w w' := by
  cases l with
  | nil =>
    refine (Tryd.strings_Join_none A c sep w).mono ?_
    rintro e w' ⟨rfl, rfl⟩
    exact ⟨rfl, Below.refl _ _⟩
  | cons x xs =>
    obtain ⟨ad, rfl, hcell⟩ := hr.2.2 (by simp)
    have hcells : ∀ (j : Nat) y, (x :: xs)[j]? = some y → w.cell? (ad.add j) = some (.string y) := fun j y hj => by
      obtain ⟨cs, h1, h2, h3⟩ := hcell j y hj
      have h2 : cs = [.string y] := h2
      subst h2
      have := h3 0 (.string y) rfl
      have e1 : j * Kd.string.sz + 0 = j := by show j * 1 + 0 = j; omega
      rw [e1] at this
      exact this
    have h0 := hcells 0 x rfl
    have ea : ad.add 0 = ad := rfl
    rw [ea] at h0
    obtain ⟨b, o, sp⟩ := ad
    have hs : sp = none := by
      unfold World.cell? at h0
      cases sp with
      | none => rfl
      | some v =>
        simp only at h0
        split at h0
        · simp at h0
        · cases h0
    subst hs
    have hb : b < w.heap.size := by
      rcases Nat.lt_or_ge b w.heap.size with h | h
      · exact h
      · unfold World.cell? at h0
        simp only [Array.getElem?_eq_none h] at h0
        cases h0
    refine Tryd.strings_Join b o c (x :: xs) sep w (fun j y hj => ?_) hb (by omega) hc (by simpa [joined, ByteArray.size] using hl)
    have := hcells j y hj
    unfold Addr.add at this
    by_cases e : j = 0
    · subst e
      rw [if_pos rfl] at this
      exact this
    · rw [if_neg e] at this; exact this
end Go.Proofs.YtinpmhmagcmamaaDoor
