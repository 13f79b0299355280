/- Words of this claim's own: an argument that is a slice of whole numbers, as a list. No condition. -/
import Derived.Test.YtpkapkgfmibooaaGB
import Derived.Test.YtpkapkgfmibooaaWWords
import Derived.Test.YtpkapkgfmibooaaWMore
namespace Go.Proofs.Ytpkapkgfmibooaa.R
open Go.RowKit Go.Proofs.YtpkapkgfmibooaaW.PrintWords Go.Proofs.YtpkapkgfmibooaaW.PrintMore
set_option linter.unusedSimpArgs false
set_option linter.unusedVariables false

theorem ints1 {k : IntKind} {cs : List Value} (h : Ints [k] cs) : ∃ z, (Lit.int k z).wf = true ∧ cs = [.int k z] := by
  obtain ⟨z, c, rfl, hz, h⟩ := h.cons
  obtain rfl := h.nil
  exact ⟨z, hz, rfl⟩

theorem open_list {k : IntKind} {W : World} {A : Option Addr} {len cap : Nat} (h : ([Value.slice A len cap] = [.slice none 0 0]) ∨ ∃ (a : Addr) (l c : Nat), [Value.slice A len cap] = [.slice (some a) l c] ∧ l ≤ c ∧ c ≤ maxLen ∧
      ∀ i, i < l → ∃ cs : List Value, Ints [k] cs ∧ ∀ j u, cs[j]? = some u → W.cell? (a.add (i * [k].length + j)) = some u) :
    ∃ xs : List Int, len = xs.length ∧ xs.length ≤ cap ∧ xs.length ≤ maxLen ∧ (∀ x ∈ xs, (Lit.int k x).wf = true) ∧ Kd.C (Kd.int k) W A xs.length xs := by
  rcases h with h | ⟨a, l, c, h, hlc, hcm, hc⟩
  · simp only [List.cons.injEq, Value.slice.injEq, and_true] at h
    obtain ⟨rfl, rfl, rfl⟩ := h
    exact ⟨[], rfl, by simp, by simp, by simp, rfl, by simp, fun h => absurd h (by simp)⟩
  · simp only [List.cons.injEq, Value.slice.injEq, and_true] at h
    obtain ⟨rfl, rfl, rfl⟩ := h
    have hm : len ≤ 9223372036854775807 := by unfold maxLen at hcm; omega
    have key : ∀ n, n ≤ len → ∃ xs : List Int, xs.length = n ∧ (∀ x ∈ xs, (Lit.int k x).wf = true) ∧ ∀ j p, xs[j]? = some p → ∃ c : List Value, c.length = 1 ∧ (Kd.int k).K W p c ∧ ∀ i u, c[i]? = some u → W.cell? (a.add (j * 1 + i)) = some u := by
      intro n
      induction n with
      | zero => exact fun _ => ⟨[], rfl, by simp, fun j p h => by simp at h⟩
      | succ n ih =>
        intro hn
        obtain ⟨xs, hl, hw, hx⟩ := ih (by omega)
        obtain ⟨cs, hI, hcs⟩ := hc n (by omega)
        obtain ⟨z, hz, rfl⟩ := ints1 hI
        · refine ⟨xs ++ [z], by simp [hl], fun y hy => ?_, fun j p hj => ?_⟩
          · rcases List.mem_append.1 hy with hy | hy
            · exact hw y hy
            · rw [List.mem_singleton.1 hy]; exact hz
          rcases Nat.lt_or_ge j xs.length with hlt | hge
          · rw [List.getElem?_append_left hlt] at hj
            exact hx j p hj
          · have hjl := (List.getElem?_eq_some_iff.1 hj).1
            rw [List.length_append, List.length_singleton] at hjl
            obtain rfl : j = n := by omega
            rw [List.getElem?_append_right hge, hl, Nat.sub_self] at hj
            obtain rfl := Option.some.inj hj
            exact ⟨_, rfl, rfl, hcs⟩
    obtain ⟨xs, rfl, hw, hx⟩ := key len (Nat.le_refl _)
    exact ⟨xs, rfl, hlc, Nat.le_trans hlc hcm, hw, rfl, hm, fun _ => ⟨a, rfl, hx⟩⟩
end Go.Proofs.Ytpkapkgfmibooaa.R
