/- Words of this claim's own: the store of one whole number in a region that draws its order. No condition. -/
import Derived.Test.YtpkapkgfmibooaaEV
import Derived.Deep.MidRow
namespace Go.Proofs.Ytpkapkgfmibooaa
open Go.RowKit Go.Proofs.YtpkapkgfmibooaaW.PrintWords Go.Proofs.YtpkapkgfmibooaaW.PrintLast
set_option linter.unusedSimpArgs false
set_option linter.unusedVariables false

theorem run_store_num {P : Program} {w : World} (b o : Nat) (ty : TypeId) (k : IntKind) (z : Int) (old : Value) (hc : w.cell? ⟨b, o, none⟩ = some old) (hf : w.frozen? ⟨b, o, none⟩ = false) (hi : (P.info? ty).map (·.size) = some 1) :
    (Instr.storeAt ty (.pointer (some ⟨b, o, none⟩)) (.int k z)).run P w = .ok () (w.setCell ⟨b, o, none⟩ (.int k z)) := by
  have h := run_storeCells_cells (P := P) b o [.int k z] 0 w (fun j hj => by
    obtain rfl : j = 0 := by simp at hj; omega
    simp [hc]) (fun j hj => by
    obtain rfl : j = 0 := by simp at hj; omega
    simpa using hf) (fun v hv => by simp at hv; subst hv; rfl)
  simp only [Instr.storeAt, Instr.sureAddr, Sem.run_bind, Sem.run_pure, Result.andThen_ok]
  cases hq : P.info? ty with
  | none => simp [hq] at hi
  | some i =>
    have hs : i.size = 1 := by simpa [hq] using hi
    have hcc : (Value.int k z).cells = #[Value.int k z] := rfl
    simp only [Nat.add_zero] at h
    have e : w.setCells b o [Value.int k z] = w.setCell ⟨b, o, none⟩ (.int k z) := rfl
    rw [e] at h
    simp [storeVar, sizeOf, typeInfo, hq, hcc, hs, h]
section
variable {P : Program} {ops : Array Oper} {Q : Exit → Act → World → Prop} {S : World → Prop} {i f : Nat} {oi : Oper} {l : Array Bool} {a : Act} {w : World}
theorem la_put (l' : Array Bool) (hi : ops[i]? = some oi) (hN : oi.dst = none) (hc : readyB .any ops l l' i = true) (hw : Region.wanted oi (yielded ops a.tmps) = true) (ty : TypeId) (x y : Operand) (ho : oi.op = .store ty x y)
    (b o : Nat) (k : IntKind) (z : Int) (old : Value) (hx : a.eval x = .pointer (some ⟨b, o, none⟩)) (hy : a.eval y = .int k z) (hcell : w.cell? ⟨b, o, none⟩ = some old) (hfree : w.frozen? ⟨b, o, none⟩ = false)
    (his : (P.info? ty).map (·.size) = some 1) (hS : S (w.setCell ⟨b, o, none⟩ (.int k z))) (h : wpAnyLast P .any ops Q S [] f l' a (w.setCell ⟨b, o, none⟩ (.int k z))) : wpAnyLast P .any ops Q S [] (f + 1) l a w := by
  refine la_one l' none hi hN hc hw (fun K hK => ?_)
  unfold Oper.wp execOp
  simp only [ho, hx, hy, Sem.run_bind, run_store_num b o ty k z old hcell hfree his, Sem.run_pure, Result.andThen_ok]
  have hk := hK a _ hS h
  have e : a.put oi.dst undef = a := by rw [hN]; rfl
  simp only [Oper.upon, e]
  exact hk
theorem k_put {K : Act → World → Prop} (hi : ops[i]? = some oi) (hw : Region.wanted oi (yielded ops a.tmps) = true) (ty : TypeId) (x y : Operand) (ho : oi.op = .store ty x y)
    (b o : Nat) (k : IntKind) (z : Int) (old : Value) (hx : a.eval x = .pointer (some ⟨b, o, none⟩)) (hy : a.eval y = .int k z) (hcell : w.cell? ⟨b, o, none⟩ = some old) (hfree : w.frozen? ⟨b, o, none⟩ = false)
    (his : (P.info? ty).map (·.size) = some 1) (h : K (a.put oi.dst undef) (w.setCell ⟨b, o, none⟩ (.int k z))) : wpOp P ops Q i K a w := by
  unfold wpOp
  simp only [hi]
  rw [if_pos hw]
  refine .inl ?_
  unfold Oper.wp execOp
  simp only [ho, hx, hy, Sem.run_bind, run_store_num b o ty k z old hcell hfree his, Sem.run_pure, Result.andThen_ok]
  exact h
end
end Go.Proofs.Ytpkapkgfmibooaa
