/- Words of this claim's own: what is gathered over the cells of a field, one after the other, is what is gathered over all numbers. No program. No condition. -/
import Derived.Test.YtlhiaofanejcoaaP2
import Derived.Test.YtlhiaofanejcoaaG2
namespace Go.Proofs.Ytlhiaofanejcoaa
open Go.RowKit Go.Proofs.YtlhiaofanejcoaaW.PrintWords
set_option linter.unusedSimpArgs false
set_option linter.unusedVariables false

section
variable {α : Type}
def foldN (f : α → Nat → α) (a : α) : Nat → α
  | 0 => a
  | i + 1 => f (foldN f a i) i
def foldIn (f : α → Nat → α) (a : α) (cs : List Int) : Nat → α
  | 0 => a
  | j + 1 => f (foldIn f a cs j) (rd cs (j : Int)).toNat
theorem foldIn_app (f : α → Nat → α) (a : α) (cs ds : List Int) : ∀ j, j ≤ cs.length → foldIn f a (cs ++ ds) j = foldIn f a cs j
  | 0, _ => rfl
  | j + 1, h => by
    simp only [foldIn]
    rw [foldIn_app f a cs ds j (by omega), rd_app_l cs ds (by omega)]
theorem foldN_same {f g : α → Nat → α} {a : α} : ∀ {n}, (∀ i, i < n → ∀ s, f s i = g s i) → foldN f a n = foldN g a n
  | 0, _ => rfl
  | n + 1, h => by
    simp only [foldN]
    rw [foldN_same (n := n) (fun i hi => h i (by omega)), h n (by omega)]
theorem fold_cells (F : Fld) (f : α → Nat → α) (a : α) : ∀ n, foldIn f a (F.cellsTo n) (F.cellsTo n).length = foldN (fun s i => if F.has (i : Int) = true then f s i else s) a n
  | 0 => rfl
  | n + 1 => by
    have ih := fold_cells F f a n
    cases hx : F.has (n : Int)
    · have e : F.cellsTo (n + 1) = F.cellsTo n := by simp [Fld.cellsTo, hx]
      rw [e, ih]
      simp [foldN, hx]
    · have e : F.cellsTo (n + 1) = F.cellsTo n ++ [(n : Int)] := by simp [Fld.cellsTo, hx]
      rw [e, List.length_append]
      show foldIn f a (F.cellsTo n ++ [(n : Int)]) ((F.cellsTo n).length + 1) = _
      simp only [foldIn, foldN]
      rw [foldIn_app f a _ _ _ (Nat.le_refl _), ih, rd_app_r, Int.toNat_natCast, if_pos hx]
end

/-- Two arrays of whole numbers held against each other, in a plain region. -/
theorem wpList_neq_row {P : Program} {ops : Array Oper} {Q : Exit → Act → World → Prop} {rest : List Oper} {oi : Oper} {a : Act} {w : World} (hg : oi.guard = none) (N : Option Tmp) (hd : oi.dst = N) (t t' : TypeId) (x y : Operand) (ho : oi.op = .binOp .neq t x y t')
    (e : TypeId) (k : IntKind) (n : Nat) (ht : P.underlying t = some (.array n e)) (he : P.underlying e = some (.int k)) (hsz : ∀ w, (sizeOf e).run P w = .ok 1 w) (hm : P.eqGuardType P.depth t = false)
    (xs ys : List Int) (hx : xs.length = n) (hy : ys.length = n) (hvx : a.eval x = .agg (vrow k xs).toArray) (hvy : a.eval y = .agg (vrow k ys).toArray)
    (h : wpList P ops Q rest (a.put N (.bool (!(xs == ys)))) w) : wpList P ops Q (oi :: rest) a w := by
  subst hd
  refine Kd.event_run hg ?_ h
  unfold execOp
  simp only [ho, hvx, hvy]
  simp [run_eqGuard_agg, hm, run_neq_row w t e k n ht he hsz xs ys hx hy]

theorem below_grown_none {w w1 : World} (h : w.grownBy w1 none) : Below w.heap.size w w1 := ⟨h.os, h.tape, h.output, h.size, fun i hi => h.block i hi (by simp)⟩
/-- A slice of numbers, read at a place. -/
theorem made_at {w : World} {b n c : Nat} {A : Option Addr} {e : TypeId} {k : IntKind} {ok : Nat → Prop} {xs : List Int} (h : Kd.R (Kd.int k) e w b ok (.slice A n c) xs) (i : Nat) (hi : i < xs.length) : ∃ ad : Addr, A = some ad ∧ w.cell? (ad.add i) = some (.int k (rd xs i)) := by
  obtain ⟨rfl, _, hC⟩ := Kd.R_reads' h
  obtain ⟨ad, rfl, hc⟩ := Kd.at_int hC (i : Int) (by omega) (by omega)
  rw [Int.toNat_natCast] at hc
  exact ⟨ad, rfl, hc⟩
/-- The numbers of the cells are numbers below 100. -/
theorem cells_at (F : Fld) {i : Nat} (h : i < (F.cellsTo 100).length) : ∃ k : Nat, rd (F.cellsTo 100) (i : Int) = (k : Int) ∧ k < 100 := cellsTo_in F 100 i h
end Go.Proofs.Ytlhiaofanejcoaa
