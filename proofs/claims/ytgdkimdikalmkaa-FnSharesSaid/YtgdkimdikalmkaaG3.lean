/- Words of this claim's own: loads of single cells in a region that draws its order; five blocks laid. No condition. -/
import Derived.Test.YtgdkimdikalmkaaK0
namespace Go.Proofs.Ytgdkimdikalmkaa
open Go.RowKit
set_option linter.unusedSimpArgs false
set_option linter.unusedVariables false

section
variable {P : Program} {ops : Array Oper} {Q : Exit → Act → World → Prop} {oi : Oper} {a : Act} {w : World}
theorem run_loadc_int {p : Addr} {k : IntKind} {z : Int} (ty : TypeId) (hu : P.underlying ty = some (.int k)) (hc : w.cell? p = some (.int k z)) :
    (Instr.loadAt ty (.pointer (some p))).run P w = .ok (.int k z) w := by
  simp [Instr.loadAt, hc, go_sem, isAgg, run_underlying hu]
theorem run_loadc_slice {p : Addr} {e : TypeId} {A : Option Addr} {n c : Nat} (ty : TypeId) (hu : P.underlying ty = some (.slice e)) (hc : w.cell? p = some (.slice A n c)) :
    (Instr.loadAt ty (.pointer (some p))).run P w = .ok (.slice A n c) w := by
  simp [Instr.loadAt, hc, go_sem, isAgg, run_underlying hu]
theorem y_loadc {v : Value} (hw : Region.wanted oi (yielded ops a.tmps) = true) (ty : TypeId) (x : Operand) (ho : oi.op = .load ty x) (p : Addr) (hx : a.eval x = .pointer (some p))
    (h : ∀ w', WUp w w' → (Instr.loadAt ty (.pointer (some p))).run P w' = .ok v w') : YieldsUp P ops oi v a w := by
  refine y_value hw fun w' h' => ?_
  unfold execOp
  simp only [ho, hx, Sem.run_bind, h w' h', Sem.run_pure, Result.andThen_ok]
end
/-- What is known of a world, and its name alone. -/
theorem wpl_name {P : Program} {ops : Array Oper} {Q : Exit → Act → World → Prop} {rest : List Oper} {a : Act} {w1 : World} (K : World → Prop) (h1 : K w1) (h : ∀ w', K w' → wpList P ops Q rest a w') : wpList P ops Q rest a w1 := h w1 h1
theorem boxed5 (w : World) (cs ds es fs gs : List Value) (T U V X Y : TypeId) : Cls w [(w.heap.size, cs, T), (w.heap.size + 1, ds, U), (w.heap.size + 1 + 1, es, V), (w.heap.size + 1 + 1 + 1, fs, X), (w.heap.size + 1 + 1 + 1 + 1, gs, Y)] (((((w.alloc (.cells cs.toArray T)).alloc (.cells ds.toArray U)).alloc (.cells es.toArray V)).alloc (.cells fs.toArray X)).alloc (.cells gs.toArray Y)) := by
  refine ⟨(((((Below.refl _ _).alloc (Nat.le_refl _) _).alloc (by simp) _).alloc (by simp; omega) _).alloc (by simp; omega) _).alloc (by simp; omega) _, fun x hx => ?_⟩
  simp only [List.mem_cons, List.not_mem_nil, or_false] at hx
  rcases hx with rfl | rfl | rfl | rfl | rfl
  · exact ((((Blk.new' w cs T).alloc _).alloc _).alloc _).alloc _
  · exact (((Blk.newAt (by simp)).alloc _).alloc _).alloc _
  · exact ((Blk.newAt (by simp)).alloc _).alloc _
  · exact (Blk.newAt (by simp)).alloc _
  · exact Blk.newAt (by simp)
end Go.Proofs.Ytgdkimdikalmkaa
