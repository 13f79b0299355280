/- Words of this claim's own: arrays of whole numbers held against each other. No condition. -/
import Derived.Test.YtlhiaofanejcoaaF5
import Derived.ChangeKeysEq
import Derived.Laws.StructEq
import Derived.Stop.BytesEq
namespace Go.Proofs.Ytlhiaofanejcoaa
open Go.RowKit
set_option linter.unusedSimpArgs false
set_option linter.unusedVariables false

theorem all_nth (xs ys : List Int) (h : xs.length = ys.length) : ((List.range xs.length).all fun i => nth xs i == nth ys i) = (xs == ys) := by
  rw [Bool.eq_iff_iff, List.all_eq_true]
  simp only [List.mem_range, beq_iff_eq]
  constructor
  · intro hi
    refine List.ext_getElem h fun i h1 h2 => ?_
    have := hi i h1
    simpa [nth, List.getD_eq_getElem?_getD, List.getElem?_eq_getElem h1, List.getElem?_eq_getElem h2] using this
  · rintro rfl i _
    rfl

section
variable {P : Program}
theorem run_equalIn_row (w : World) (d : Nat) (t e : TypeId) (k : IntKind) (n : Nat) (ht : P.underlying t = some (.array n e)) (he : P.underlying e = some (.int k)) (hsz : ∀ w, (sizeOf e).run P w = .ok 1 w)
    (xs ys : List Int) (hx : xs.length = n) (hy : ys.length = n) :
    (Op.equalIn (d + 2) t (.agg (vrow k xs).toArray) (.agg (vrow k ys).toArray)).run P w = .ok (xs == ys) w := by
  rw [← all_nth xs ys (hx.trans hy.symm), hx, List.range_eq_range', Op.equalIn]
  simp only [Sem.run_bind, run_underlying ht, Result.andThen_ok, hsz, Std.Legacy.Range.forIn_eq_forIn_range', Std.Legacy.Range.size, Nat.sub_zero, Nat.add_sub_cancel, Nat.div_one]
  have hl : ∀ i ∈ List.range' 0 n 1, i < n := fun i hi => by simpa using (List.mem_range'_1.1 hi).2
  generalize List.range' 0 n 1 = l at hl ⊢
  induction l with
  | nil => simp
  | cons i l ih =>
    have hi : i < n := hl i (by simp)
    have px : (part e (vrow k xs).toArray (i * 1)).run P w = .ok (.int k (nth xs i)) w := by
      simp [part, isAgg, run_underlying he, vrow, nth, List.getD, List.getElem?_eq_getElem (show i < xs.length by omega)]
    have py : (part e (vrow k ys).toArray (i * 1)).run P w = .ok (.int k (nth ys i)) w := by
      simp [part, isAgg, run_underlying he, vrow, nth, List.getD, List.getElem?_eq_getElem (show i < ys.length by omega)]
    have pe : (Op.equalIn (d + 1) e (.int k (nth xs i)) (.int k (nth ys i))).run P w = .ok (nth xs i == nth ys i) w := by
      rw [run_equalIn_int w d e k k _ _ he]
    simp only [List.forIn_cons, Sem.run_bind, px, py, pe, Result.andThen_ok, List.all_cons]
    cases hb : (nth xs i == nth ys i)
    · simp
    · simp only [Bool.not_true, Bool.false_eq_true, if_false, Sem.run_pure, Result.andThen_ok, Bool.true_and]
      exact ih fun j hj => hl j (by simp [hj])

theorem run_neq_row (w : World) (t e : TypeId) (k : IntKind) (n : Nat) (ht : P.underlying t = some (.array n e)) (he : P.underlying e = some (.int k)) (hsz : ∀ w, (sizeOf e).run P w = .ok 1 w)
    (xs ys : List Int) (hx : xs.length = n) (hy : ys.length = n) :
    (binOp .neq t (.agg (vrow k xs).toArray) (.agg (vrow k ys).toArray)).run P w = .ok (.bool (!(xs == ys))) w := by
  rw [run_neq_struct, run_equalIn_row w 9998 t e k n ht he hsz xs ys hx hy]
  rfl

theorem run_eql_row (w : World) (t e : TypeId) (k : IntKind) (n : Nat) (ht : P.underlying t = some (.array n e)) (he : P.underlying e = some (.int k)) (hsz : ∀ w, (sizeOf e).run P w = .ok 1 w)
    (xs ys : List Int) (hx : xs.length = n) (hy : ys.length = n) :
    (binOp .eql t (.agg (vrow k xs).toArray) (.agg (vrow k ys).toArray)).run P w = .ok (.bool (xs == ys)) w := by
  rw [run_eql_struct, run_equalIn_row w 9998 t e k n ht he hsz xs ys hx hy]
  rfl
end
end Go.Proofs.Ytlhiaofanejcoaa
