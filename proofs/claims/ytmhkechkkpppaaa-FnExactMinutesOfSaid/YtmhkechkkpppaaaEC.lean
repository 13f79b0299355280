/- Two sets held against each other by the statements. No condition. -/
import Derived.Test.YtmhkechkkpppaaaGC
import Derived.Test.YtmhkechkkpppaaaGB
namespace Go.Proofs.Ytmhkechkkpppaaa
open Go.RowKit
set_option linter.unusedSimpArgs false
set_option linter.unusedVariables false

theorem zrow_one (k : IntKind) (n : Nat) : ∀ v ∈ zrow k n, v.oneCell' = true := by intro v hv; rw [List.eq_of_mem_replicate hv]; rfl
theorem vrow_zero (k : IntKind) (n : Nat) : vrow k (List.replicate n 0) = zrow k n := by simp [vrow, zrow]

theorem run_storeCells_blk {P : Program} {w : World} {g : Nat} {cs vs : List Value} {T : TypeId} (hB : Blk w g cs T) (hl : vs.length = cs.length) (h1 : ∀ v ∈ vs, v.oneCell' = true) :
    Sem.run P (storeCells ⟨g, 0, none⟩ vs) w = .ok () (w.setRow g vs.toArray) := by
  have := run_storeCells_at (P := P) g 0 T vs 0 cs.toArray w hB (show 0 + 0 + vs.length ≤ cs.toArray.size by rw [List.size_toArray]; omega) h1
  rw [this]
  have e : List.drop (0 + 0 + vs.length) cs.toArray.toList = [] := List.drop_eq_nil_iff.2 (show cs.length ≤ 0 + 0 + vs.length by omega)
  rw [e, List.append_nil]
  rfl

set_option maxHeartbeats 1000000 in
theorem eqCells_any (xs ys : List Int) (hx : xs.length = 2) (hy : ys.length = 2) (h : xs = ys) (w : World) :
    Calls Try.prog 22 #[.agg (vrow .u64 xs).toArray, .agg (vrow .u64 ys).toArray] w fun e w' => e = .returned (.bool true) ∧ Below w.heap.size w w' := by
  obtain rfl := h
  clear hy
  go_enter Try.func22, Try.ntmps22
  go_upto_region 1 with (fail)
  obtain ⟨W, hW⟩ : ∃ W, W = (w.alloc (.cells (vrow .u64 xs).toArray 40)).alloc (.cells (vrow .u64 xs).toArray 40) := ⟨_, rfl⟩
  have HC := Lib.hid (boxed2 w (vrow .u64 xs) (vrow .u64 xs) 40 40)
  rw [← hW] at HC ⊢
  clear hW
  go_wp2
  go_loopw [5] (fun v wr => ∃ i : Nat, i ≤ 2 ∧ v = .int .i64 i ∧ ∃ n, wr = W.drewN n) (fun v _ => 2 - (intOf v).toNat)
  case atStart => exact ⟨0, by omega, rfl, 0, rfl⟩
  case round =>
    obtain ⟨i, hi, rfl, n, rfl⟩ := hrel
    by_cases hlt : i < 2
    · have c1 := (HC.out.blk (w.heap.size, vrow .u64 xs, 40) (by simp)).cell (vrow_get (k := .u64) (zs := xs) (i := i) (by omega))
      have c2 := (HC.out.blk (w.heap.size + 1, vrow .u64 xs, 40) (by simp)).cell (vrow_get (k := .u64) (zs := xs) (i := i) (by omega))
      have hne : (nth xs i != nth xs i) = false := by simp
      simp only at c1 c2
      go_wp2
      go_quiet (fail)
      go_wp2
      go_roundw
      case rel => exact ⟨i + 1, by omega, by go_num, _, rfl⟩
      case measure => simp [intOf]; omega
    · go_wp2
      go_ret
      exact ⟨rfl, below_drewN HC.out.below _⟩

end Go.Proofs.Ytmhkechkkpppaaa
