/- An argument that is a list of flocks: its elements' numbers; the law's copy of it. No condition but a bound of the length. -/
import Derived.Test.YtlhiaofanejcoaaA2
import Derived.Test.YtlhiaofanejcoaaO
import Derived.Test.YtlhiaofanejcoaaMkFlock
namespace Go.Proofs.Ytlhiaofanejcoaa
open Go.RowKit Go.Proofs.YtlhiaofanejcoaaW.PrintWords Go.Proofs.YtlhiaofanejcoaaW.PrintLast Go.Proofs.YtlhiaofanejcoaaW.PrintMore Go.Proofs.Ytlhiaofanejcoaa.PAll
set_option linter.unusedSimpArgs false
set_option linter.unusedVariables false

/-- The law's flock as the program's. -/
def lf (x : S36) : S39 := ⟨x.f0, x.f1, x.f2, x.f3, x.f4, x.f5⟩
def FlksL (xs : List S36) : Prop := ∀ x ∈ xs, FlkOk (lf x)
theorem flksL_ok {xs : List S36} (h : FlksL xs) : FlksOk (xs.map lf) := fun i hi => by
  have hi' : i < xs.length := by simpa using hi
  have e : rd_T39 (xs.map lf) (i : Int) = lf xs[i] := by
    simp [rd_T39, List.getD_eq_getElem?_getD, List.getElem?_eq_getElem hi']
  rw [e]
  exact h _ (List.getElem_mem hi')
theorem flk_of_ints' {cs : List Value} (h : R.Ints [.i16, .i16, .i16, .i16, .i16, .i8] cs) : ∃ x : S36, FlkOk (lf x) ∧ cs = [.int .i16 x.f0, .int .i16 x.f1, .int .i16 x.f2, .int .i16 x.f3, .int .i16 x.f4, .int .i8 x.f5] := by
  obtain ⟨x, hx, e⟩ := flk_of_ints h
  exact ⟨⟨x.f0, x.f1, x.f2, x.f3, x.f4, x.f5⟩, hx, e⟩

theorem open_flocks {W : World} {A : Option Addr} {len cap : Nat} (h : ([Value.slice A len cap] = [.slice none 0 0]) ∨ ∃ (a : Addr) (l c : Nat), [Value.slice A len cap] = [.slice (some a) l c] ∧ l ≤ c ∧ c ≤ maxLen ∧
      ∀ i, i < l → ∃ cs : List Value, R.Ints [.i16, .i16, .i16, .i16, .i16, .i8] cs ∧ ∀ j u, cs[j]? = some u → W.cell? (a.add (i * [IntKind.i16, .i16, .i16, .i16, .i16, .i8].length + j)) = some u) :
    ∃ xs : List S36, len = xs.length ∧ xs.length ≤ cap ∧ xs.length ≤ maxLen ∧ (Kd.C k36 W A xs.length xs ∧ FlksL xs) := by
  rcases h with h | ⟨a, l, c, h, hlc, hcm, hc⟩
  · simp only [List.cons.injEq, Value.slice.injEq, and_true] at h
    obtain ⟨rfl, rfl, rfl⟩ := h
    exact ⟨[], rfl, by simp, by simp, ⟨rfl, by simp, fun h => absurd h (by simp)⟩, by simp [FlksL]⟩
  · simp only [List.cons.injEq, Value.slice.injEq, and_true] at h
    obtain ⟨rfl, rfl, rfl⟩ := h
    have hm : len ≤ 9223372036854775807 := by unfold maxLen at hcm; omega
    have key : ∀ n, n ≤ len → ∃ xs : List S36, xs.length = n ∧ FlksL xs ∧ ∀ j p, xs[j]? = some p → ∃ c : List Value, c.length = 6 ∧ k36.K W p c ∧ ∀ i u, c[i]? = some u → W.cell? (a.add (j * 6 + i)) = some u := by
      intro n
      induction n with
      | zero => exact fun _ => ⟨[], rfl, by simp [FlksL], fun j p h => by simp at h⟩
      | succ n ih =>
        intro hn
        obtain ⟨xs, hl, hw, hx⟩ := ih (by omega)
        obtain ⟨cs, hI, hcs⟩ := hc n (by omega)
        obtain ⟨x, hxo, rfl⟩ := flk_of_ints' hI
        · refine ⟨xs ++ [x], by simp [hl], fun y hy => ?_, fun j p hj => ?_⟩
          · rcases List.mem_append.1 hy with hy | hy
            · exact hw y hy
            · rw [List.mem_singleton.1 hy]; exact hxo
          rcases Nat.lt_or_ge j xs.length with hlt | hge
          · rw [List.getElem?_append_left hlt] at hj
            exact hx j p hj
          · have hjl := (List.getElem?_eq_some_iff.1 hj).1
            rw [List.length_append, List.length_singleton] at hjl
            obtain rfl : j = n := by omega
            rw [List.getElem?_append_right hge, hl, Nat.sub_self] at hj
            obtain rfl := Option.some.inj hj
            exact ⟨_, rfl, k36_mk W x, hcs⟩
    obtain ⟨xs, rfl, hw, hx⟩ := key len (Nat.le_refl _)
    exact ⟨xs, rfl, hlc, Nat.le_trans hlc hcm, ⟨rfl, hm, fun _ => ⟨a, rfl, hx⟩⟩, hw⟩

theorem toFlks_l (l : List S36) (hn : l.length ≤ 1048576) (d : Nat) : ∀ (x : List S39) (i : Int), 0 ≤ i → i + d = (l.length : Int) → x.length = l.length → (∀ j : Nat, (j : Int) < i → x[j]? = (l.map lf)[j]?) →
    laws_toFlockS.l0 (d + 1) l x i = some (l.map lf) := by
  induction d with
  | zero =>
    intro x i hi he hl hx
    simp only [laws_toFlockS.l0]
    rw [if_neg (by omega)]
    congr 1
    refine List.ext_getElem? fun j => ?_
    rcases Nat.lt_or_ge j l.length with h | h
    · exact hx j (by omega)
    · rw [List.getElem?_eq_none (by omega), List.getElem?_eq_none (by simpa using h)]
  | succ d ih =>
    intro x i hi he hl hx
    have hlt : i < (l.length : Int) := by omega
    have wi : wrap64 (i + 1) = i + 1 := by unfold wrap64; omega
    have h1 := ih (x.set i.toNat (lf (rd_T36 l i))) (i + 1) (by omega) (by omega) (by rw [List.length_set]; exact hl) (fun j hj => by
      by_cases e : j = i.toNat
      · have hlj : j < l.length := by omega
        rw [e, List.getElem?_set, if_pos rfl, if_pos (by omega), ← e]
        simp [rd_T36, List.getD_eq_getElem?_getD, show i.toNat = j from e.symm, List.getElem?_eq_getElem hlj]
      · rw [List.getElem?_set, if_neg (fun h => e h.symm)]
        exact hx j (by omega))
    generalize d + 1 = K at h1 ⊢
    simp only [laws_toFlockS.l0]
    rw [if_pos hlt, if_pos hi]
    simp only [laws_toFlock.f, Option.bind_some]
    rw [if_pos (by omega), wi]
    exact h1
theorem toFlockS_any {w : World} {A : Option Addr} {c : Nat} (l : List S36) (hC : Kd.C k36 w A l.length l) (hn : l.length ≤ 1048576) (hc : l.length ≤ c) :
    Calls Try.prog 36 #[.slice A l.length c] w fun e w' => ∃ v : Value, e = .returned v ∧ Kd.R k39 39 w' w.heap.size (fun _ => True) v (l.map lf) ∧ Below w.heap.size w w' :=
  laws_toFlockS.calls (l.length + 1) A c l (l.map lf) w hC hc (by
    unfold laws_toFlockS.f
    rw [if_pos (by omega), if_pos (by omega)]
    exact toFlks_l l hn l.length _ 0 (by omega) (by omega) (by simp) (fun j hj => by omega))
theorem szFlk_no {w : World} {A : Option Addr} {c : Nat} {l : List S36} (hC : Kd.C k36 w A l.length l) (hc : l.length ≤ c) (hm : l.length ≤ 9223372036854775807) (hn : (1048576 : Int) < (l.length : Int)) :
    Calls Try.prog 34 #[.slice A l.length c, .int .i64 1048576] w fun e w' => e = .returned (.int .i64 (-1)) ∧ Below w.heap.size w w' :=
  (laws_szFlockS.calls A c l 1048576 (-1) w hC hc (by unfold laws_szFlockS.f; rw [if_pos (by unfold wrap64; omega)])).mono fun e w' ⟨he, hb⟩ => ⟨he, hb.below⟩
theorem szFlk_yes {w : World} {A : Option Addr} {c : Nat} {l : List S36} (hC : Kd.C k36 w A l.length l) (hc : l.length ≤ c) (hn : l.length ≤ 1048576) :
    Calls Try.prog 34 #[.slice A l.length c, .int .i64 1048576] w fun e w' => e = .returned (.int .i64 (1048576 - (l.length : Int))) ∧ Below w.heap.size w w' :=
  (laws_szFlockS.calls A c l 1048576 (1048576 - (l.length : Int)) w hC hc (by
    have e : wrap64 (1048576 - (l.length : Int)) = 1048576 - (l.length : Int) := by unfold wrap64; omega
    unfold laws_szFlockS.f
    rw [e, if_neg (by omega)])).mono fun e w' ⟨he, hb⟩ => ⟨he, hb.below⟩
end Go.Proofs.Ytlhiaofanejcoaa
