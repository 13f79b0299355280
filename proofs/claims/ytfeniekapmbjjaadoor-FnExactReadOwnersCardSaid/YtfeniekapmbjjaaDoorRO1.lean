/- Owners read: the model, plain; results in two blocks and a number. No condition but those that each theorem names. -/
import Derived.Test.YtfeniekapmbjjaaDoorRF3
namespace Go.Proofs.YtfeniekapmbjjaaDoor
open Go.RowKit Go.Proofs.YtfeniekapmbjjaaDoorW.PrintWords Go.Proofs.YtfeniekapmbjjaaDoorW.PrintLast Go.Proofs.YtfeniekapmbjjaaDoorW.PrintMore Go.Proofs.YtfeniekapmbjjaaDoor.PAll
set_option linter.unusedSimpArgs false
set_option linter.unusedVariables false

theorem post_blk3 {P : Program} {fn : Func} {R : Ending → World → Prop} {a : Act} {w : World} {p q r : Tmp} {ty ty2 T T2 : TypeId} {g g2 : Nat} {cs cs2 : List Value} {d d2 : TypeDesc} {v : Value} (hr : fn.results = #[.cell p ty, .cell q ty2, .tmp r]) (hd : a.defers = [])
    (hp : a.tmps.getD p undef = .pointer (some ⟨g, 0, none⟩)) (hq : a.tmps.getD q undef = .pointer (some ⟨g2, 0, none⟩)) (hv : a.tmps.getD r undef = v)
    (hB : Blk w g cs T) (hu : P.underlying ty = some d) (hd' : d.isRow = true) (hi : (P.info? ty).map (·.size) = some cs.length)
    (hB2 : Blk w g2 cs2 T2) (hu2 : P.underlying ty2 = some d2) (hd2 : d2.isRow = true) (hi2 : (P.info? ty2).map (·.size) = some cs2.length)
    (h : R (.returned (.tuple #[.agg cs.toArray, .agg cs2.toArray, v])) w) : bodyPost P fn R .ret a w := by
  refine ⟨hd, _, ?_, h⟩
  have hp' : a.tmps[p]?.getD undef = .pointer (some ⟨g, 0, none⟩) := by simpa using hp
  have hq' : a.tmps[q]?.getD undef = .pointer (some ⟨g2, 0, none⟩) := by simpa using hq
  have hv' : a.tmps[r]?.getD undef = v := by simpa using hv
  have hl := run_loadVar_row (P := P) w g T ty cs.toArray (0, 0) d hB hu (by cases d <;> simp_all [TypeDesc.isRow]) (by simpa using hi)
  have hl2 := run_loadVar_row (P := P) w g2 T2 ty2 cs2.toArray (0, 0) d2 hB2 hu2 (by cases d2 <;> simp_all [TypeDesc.isRow]) (by simpa using hi2)
  simp [results, hr, hp', hq', hv', asAddr, hl, hl2]

def zown : List Int := List.replicate 100 0
def bareO : List Int := List.replicate 100 (-1)
/-- A row's owners, from the x-th on. -/
def rowO (y : Nat) : List Int → Nat → List ByteArray → Option (List Int)
  | os, _, [] => some os
  | os, x, s :: l => if (parseF s 0 9).2 = true then rowO y (os.set (x + 10 * y) (parseF s 0 9).1) (x + 1) l else none
/-- Lines of owners, each as wide as the field. -/
def linesO (wide : Int) : List Int → Nat → List ByteArray → Option (List Int)
  | os, _, [] => some os
  | os, y, s :: l => if ((cutS 32 s).length : Int) ≠ wide then none else (rowO y os 0 (cutS 32 s)).bind fun os => linesO wide os (y + 1) l
def readOut2 : Option (Fld × List Int) → Value
  | some (F, os) => .tuple #[.agg F.vals.toArray, .agg (vrow .i8 os).toArray, .int .i64 0]
  | none => .tuple #[.agg zfld.vals.toArray, .agg (vrow .i8 zown).toArray, .int .i64 5]
/-- Owners of a field read, and lines of owners. -/
def ownersOf (L : List ByteArray) (F : Fld) : Option (Fld × List Int) :=
  if (L.length : Int) ≠ F.high then none else (linesO F.wide bareO 0 L).map fun os => (F, os)
/-- The program's two texts: ahead of the first empty line, and behind it. -/
def cut1 (t : ByteArray) : ByteArray := ⟨(Lib.cut t.data.toList [10, 10]).1.toArray⟩
def cut2 (t : ByteArray) : ByteArray := ⟨(Lib.cut t.data.toList [10, 10]).2.1.toArray⟩
noncomputable def iOwn (t : ByteArray) : Option (Fld × List Int) := (iRead (cut2 t)).bind (ownersOf (cutS 10 (cut1 t)))
/-- Lines up to the first empty one. -/
def upTo : List ByteArray → List ByteArray
  | [] => []
  | s :: l => if s = emptyB then [] else s :: upTo l
def lensOf : List ByteArray → Nat
  | [] => 0
  | s :: l => s.size + 1 + lensOf l
def sOwn (t : ByteArray) : Option (Fld × List Int) :=
  if t.size < lensOf (upTo (cutS 10 t)) + 1 then none
  else (sRead (t.extract (lensOf (upTo (cutS 10 t)) + 1) t.size)).bind (ownersOf (upTo (cutS 10 t)))
theorem iCut_any (t : ByteArray) (hs : t.size ≤ 1048576) (w : World) (hG : Glob w) :
    Calls Tryd.prog 26 #[.string t, .string ⟨#[10, 10]⟩] w fun e w' => (∃ b, e = .returned (.tuple #[.string (cut1 t), .string (cut2 t), .bool b])) ∧ Below w.heap.size w w' := by
  obtain ⟨m, hm⟩ := hG.ml
  refine (Tryd.strings_Cut t ⟨#[10, 10]⟩ m w (by omega) hm).mono ?_
  rintro e w' ⟨rfl, n, rfl⟩
  exact ⟨⟨_, rfl⟩, pw_below_drewN (Below.refl _ _) n⟩
theorem rowO_ok {y : Nat} : ∀ (l : List ByteArray) (os os2 : List Int) (x : Nat), OsOk os → rowO y os x l = some os2 → OsOk os2
  | [], os, os2, x, h, e => by
    simp only [rowO] at e
    cases e
    exact h
  | s :: l, os, os2, x, h, e => by
    simp only [rowO] at e
    split at e
    · rename_i hp
      obtain ⟨b0, b1⟩ := parse_bounds hp
      exact rowO_ok l _ os2 (x + 1) ⟨by rw [List.length_set]; exact h.len, fun z hz => by
        rcases List.mem_or_eq_of_mem_set hz with hz | rfl
        · exact h.b z hz
        · omega⟩ e
    · cases e
theorem rowF_ok {y : Nat} : ∀ (l : List ByteArray) (F G : Fld) (x : Nat), F.Ok → rowF y F x l = some G → G.Ok
  | [], F, G, x, h, e => by
    simp only [rowF] at e
    cases e
    exact h
  | s :: l, F, G, x, h, e => by
    simp only [rowF] at e
    cases hc : cellF F (x + 10 * y) s with
    | none => rw [hc] at e; cases e
    | some F2 =>
      rw [hc] at e
      exact rowF_ok l F2 G (x + 1) (cellF_ok h hc) e
theorem linesF_ok {b : Bool} : ∀ (l : List ByteArray) (F G : Fld) (y : Nat), F.Ok → linesF b F y l = some G → G.Ok
  | [], F, G, y, h, e => by
    simp only [linesF] at e
    cases e
    exact h
  | s :: l, F, G, y, h, e => by
    simp only [linesF] at e
    split at e
    · cases e
    · rename_i hc
      have hl : (cutS 32 s).length ≤ 10 := by
        rcases Nat.lt_or_ge 10 (cutS 32 s).length with h10 | h10
        · exact absurd (.inl h10) hc
        · exact h10
      cases hr : rowF y (F.setW (cutS 32 s).length) 0 (cutS 32 s) with
      | none => rw [hr] at e; cases e
      | some F2 =>
        rw [hr] at e
        exact linesF_ok l F2 G (y + 1) (rowF_ok _ _ _ _ (h.setW (by omega) (by omega)) hr) e
end Go.Proofs.YtfeniekapmbjjaaDoor
