/- An argument that is a list of scarecrows: its elements' numbers; the law's copy of it. No condition but a bound of the length. -/
import Derived.Test.YtndhmcjcnmiobaaGB
import Derived.Test.YtndhmcjcnmiobaaGC
import Derived.Test.YtndhmcjcnmiobaaMkScare
import Derived.Test.YtndhmcjcnmiobaaS3
namespace Go.Proofs.Ytndhmcjcnmiobaa
open Go.RowKit Go.Proofs.YtndhmcjcnmiobaaW.PrintWords Go.Proofs.YtndhmcjcnmiobaaW.PrintLast Go.Proofs.YtndhmcjcnmiobaaW.PrintMore Go.Proofs.Ytndhmcjcnmiobaa.PAll
set_option linter.unusedSimpArgs false
set_option linter.unusedVariables false

/-- The law's scarecrow as the program's. -/
def ls (x : S63) : S61 := ⟨x.f0, x.f1, x.f2⟩
def ScsL (xs : List S63) : Prop := ∀ x ∈ xs, ScOk (ls x)
theorem scsL_ok {xs : List S63} (h : ScsL xs) : ScsOk (xs.map ls) := fun i hi => by
  have hi' : i < xs.length := by simpa using hi
  have e : rd_T61 (xs.map ls) (i : Int) = ls xs[i] := by
    simp [rd_T61, List.getD_eq_getElem?_getD, List.getElem?_eq_getElem hi']
  rw [e]
  exact h _ (List.getElem_mem hi')
theorem sc_of_ints {cs : List Value} (h : R.Ints [.i16, .i16, .i8] cs) : ∃ x : S61, ScOk x ∧ cs = scVals x := by
  obtain ⟨a, c1, rfl, ha, h⟩ := h.cons
  obtain ⟨b, c2, rfl, hb, h⟩ := h.cons
  obtain ⟨c, c3, rfl, hc, h⟩ := h.cons
  obtain rfl := h.nil
  exact ⟨⟨a, b, c⟩, ⟨(wf_i16 ha).1, (wf_i16 ha).2, (wf_i16 hb).1, (wf_i16 hb).2, (wf_i8 hc).1, (wf_i8 hc).2⟩, rfl⟩
theorem sc_of_ints' {cs : List Value} (h : R.Ints [.i16, .i16, .i8] cs) : ∃ x : S63, ScOk (ls x) ∧ cs = [.int .i16 x.f0, .int .i16 x.f1, .int .i8 x.f2] := by
  obtain ⟨x, hx, e⟩ := sc_of_ints h
  exact ⟨⟨x.f0, x.f1, x.f2⟩, hx, e⟩

theorem open_scares {W : World} {A : Option Addr} {len cap : Nat} (h : ([Value.slice A len cap] = [.slice none 0 0]) ∨ ∃ (a : Addr) (l c : Nat), [Value.slice A len cap] = [.slice (some a) l c] ∧ l ≤ c ∧ c ≤ maxLen ∧
      ∀ i, i < l → ∃ cs : List Value, R.Ints [.i16, .i16, .i8] cs ∧ ∀ j u, cs[j]? = some u → W.cell? (a.add (i * [IntKind.i16, .i16, .i8].length + j)) = some u) :
    ∃ xs : List S63, len = xs.length ∧ xs.length ≤ cap ∧ xs.length ≤ maxLen ∧ (Kd.C k63 W A xs.length xs ∧ ScsL xs) := by
  rcases h with h | ⟨a, l, c, h, hlc, hcm, hc⟩
  · simp only [List.cons.injEq, Value.slice.injEq, and_true] at h
    obtain ⟨rfl, rfl, rfl⟩ := h
    exact ⟨[], rfl, by simp, by simp, ⟨rfl, by simp, fun h => absurd h (by simp)⟩, by simp [ScsL]⟩
  · simp only [List.cons.injEq, Value.slice.injEq, and_true] at h
    obtain ⟨rfl, rfl, rfl⟩ := h
    have hm : len ≤ 9223372036854775807 := by unfold maxLen at hcm; omega
    have key : ∀ n, n ≤ len → ∃ xs : List S63, xs.length = n ∧ ScsL xs ∧ ∀ j p, xs[j]? = some p → ∃ c : List Value, c.length = 3 ∧ k63.K W p c ∧ ∀ i u, c[i]? = some u → W.cell? (a.add (j * 3 + i)) = some u := by
      intro n
      induction n with
      | zero => exact fun _ => ⟨[], rfl, by simp [ScsL], fun j p h => by simp at h⟩
      | succ n ih =>
        intro hn
        obtain ⟨xs, hl, hw, hx⟩ := ih (by omega)
        obtain ⟨cs, hI, hcs⟩ := hc n (by omega)
        obtain ⟨x, hxo, rfl⟩ := sc_of_ints' hI
        · refine ⟨xs ++ [x], by simp [hl], fun y hy => ?_, fun j p hj => ?_⟩
          · rcases List.mem_append.1 hy with hy | hy
            · exact hw y hy
            · rw [List.mem_singleton.1 hy]; exact hxo
          rcases Nat.lt_or_ge j xs.length with hlt | hge
          · rw [List.getElem?_append_left hlt] at hj
            exact hx j p hj
          · have hjl := (List.getElem?_eq_some_iff.1 hj).1
            rw [List.length_append, List.length_singleton] at hjl
            obtain rfl : j = n := by omega
            rw [List.getElem?_append_right hge, hl, Nat.sub_self] at hj
            obtain rfl := Option.some.inj hj
            exact ⟨_, rfl, k63_mk W x, hcs⟩
    obtain ⟨xs, rfl, hw, hx⟩ := key len (Nat.le_refl _)
    exact ⟨xs, rfl, hlc, Nat.le_trans hlc hcm, ⟨rfl, hm, fun _ => ⟨a, rfl, hx⟩⟩, hw⟩

theorem toScs_l (l : List S63) (hn : l.length ≤ 1048576) (d : Nat) : ∀ (x : List S61) (i : Int), 0 ≤ i → i + d = (l.length : Int) → x.length = l.length → (∀ j : Nat, (j : Int) < i → x[j]? = (l.map ls)[j]?) →
    laws_toScarecrowS.l0 (d + 1) l x i = some (l.map ls) := by
  induction d with
  | zero =>
    intro x i hi he hl hx
    simp only [laws_toScarecrowS.l0]
    rw [if_neg (by omega)]
    congr 1
    refine List.ext_getElem? fun j => ?_
    rcases Nat.lt_or_ge j l.length with h | h
    · exact hx j (by omega)
    · rw [List.getElem?_eq_none (by omega), List.getElem?_eq_none (by simpa using h)]
  | succ d ih =>
    intro x i hi he hl hx
    have hlt : i < (l.length : Int) := by omega
    have wi : wrap64 (i + 1) = i + 1 := by unfold wrap64; omega
    have h1 := ih (x.set i.toNat (ls (rd_T63 l i))) (i + 1) (by omega) (by omega) (by rw [List.length_set]; exact hl) (fun j hj => by
      by_cases e : j = i.toNat
      · have hlj : j < l.length := by omega
        rw [e, List.getElem?_set, if_pos rfl, if_pos (by omega), ← e]
        simp [rd_T63, List.getD_eq_getElem?_getD, show i.toNat = j from e.symm, List.getElem?_eq_getElem hlj]
      · rw [List.getElem?_set, if_neg (fun h => e h.symm)]
        exact hx j (by omega))
    generalize d + 1 = K at h1 ⊢
    simp only [laws_toScarecrowS.l0]
    rw [if_pos hlt, if_pos hi]
    simp only [laws_toScarecrow.f, Option.bind_some]
    rw [if_pos (by omega), wi]
    exact h1
theorem toScarecrowS_any {w : World} {A : Option Addr} {c : Nat} (l : List S63) (hC : Kd.C k63 w A l.length l) (hn : l.length ≤ 1048576) (hc : l.length ≤ c) :
    Calls Try.prog 12 #[.slice A l.length c] w fun e w' => ∃ v : Value, e = .returned v ∧ Kd.R k61 61 w' w.heap.size (fun _ => True) v (l.map ls) ∧ Below w.heap.size w w' :=
  laws_toScarecrowS.calls (l.length + 1) A c l (l.map ls) w hC hc (by
    unfold laws_toScarecrowS.f
    rw [if_pos (by omega), if_pos (by omega)]
    exact toScs_l l hn l.length _ 0 (by omega) (by omega) (by simp) (fun j hj => by omega))
theorem szSc_no {w : World} {A : Option Addr} {c : Nat} {l : List S63} (hC : Kd.C k63 w A l.length l) (hc : l.length ≤ c) (hm : l.length ≤ 9223372036854775807) (hn : (1048576 : Int) < (l.length : Int)) :
    Calls Try.prog 9 #[.slice A l.length c, .int .i64 1048576] w fun e w' => e = .returned (.int .i64 (-1)) ∧ Below w.heap.size w w' :=
  (laws_szScarecrowS.calls A c l 1048576 (-1) w hC hc (by unfold laws_szScarecrowS.f; rw [if_pos (by unfold wrap64; omega)])).mono fun e w' ⟨he, hb⟩ => ⟨he, hb.below⟩
theorem szSc_yes {w : World} {A : Option Addr} {c : Nat} {l : List S63} (hC : Kd.C k63 w A l.length l) (hc : l.length ≤ c) (hn : l.length ≤ 1048576) :
    Calls Try.prog 9 #[.slice A l.length c, .int .i64 1048576] w fun e w' => e = .returned (.int .i64 (1048576 - (l.length : Int))) ∧ Below w.heap.size w w' :=
  (laws_szScarecrowS.calls A c l 1048576 (1048576 - (l.length : Int)) w hC hc (by
    have e : wrap64 (1048576 - (l.length : Int)) = 1048576 - (l.length : Int) := by unfold wrap64; omega
    unfold laws_szScarecrowS.f
    rw [e, if_neg (by omega)])).mono fun e w' ⟨he, hb⟩ => ⟨he, hb.below⟩
end Go.Proofs.Ytndhmcjcnmiobaa
