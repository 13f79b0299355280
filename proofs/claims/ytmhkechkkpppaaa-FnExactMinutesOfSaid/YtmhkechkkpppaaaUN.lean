/- What is in one of two sets, by the reference; the cells that are seen in some minute. No condition but that the numbers are within their kinds. -/
import Derived.Test.YtmhkechkkpppaaaBits
import Derived.Test.YtmhkechkkpppaaaG3
namespace Go.Proofs.Ytmhkechkkpppaaa
open Go.RowKit
set_option linter.unusedSimpArgs false
set_option linter.unusedVariables false

def eitherN (U V : List Int) : List Int := [bits .or .u64 (nth U 0) (nth V 0), bits .and .u64 (bits .or .u64 (nth U 1) (nth V 1)) 68719476735]
theorem either_setTo {U V : List Int} (hU : ClOk U) (hV : ClOk V) : eitherN U V = setTo (fun j => hasN U j || hasN V j) 100 := by
  obtain ⟨x, y, rfl, x0, x1, y0, y1⟩ := hU.two
  obtain ⟨a, b, rfl, a0, a1, b0, b1⟩ := hV.two
  refine eq_setTo ⟨rfl, fun z hz => ?_⟩ _ (fun j hj => ?_) (fun j h1 h2 => ?_)
  · unfold eitherN at hz
    rcases List.mem_cons.1 hz with rfl | hz
    · rw [or_bv]; exact bv_range _
    · rw [List.mem_singleton.1 hz, and_bv]; exact bv_range _
  · show hasN [bits .or .u64 x a, bits .and .u64 (bits .or .u64 y b) 68719476735] j = _
    rcases Nat.lt_or_ge j 64 with h' | h'
    · rw [hasN_lo _ _ h', hasN_lo _ _ h', hasN_lo _ _ h', bv_or, BitVec.getLsbD_or]
    · obtain ⟨k, rfl⟩ : ∃ k, j = k + 64 := ⟨j - 64, by omega⟩
      rw [hasN_hi _ _ (by omega), hasN_hi _ _ (by omega), hasN_hi _ _ (by omega), bv_and, bv_or, BitVec.getLsbD_and, BitVec.getLsbD_or, mask_bit (by omega), decide_eq_true (by omega : k < 36), Bool.and_true]
  · show hasN [bits .or .u64 x a, bits .and .u64 (bits .or .u64 y b) 68719476735] j = _
    obtain ⟨k, rfl⟩ : ∃ k, j = k + 64 := ⟨j - 64, by omega⟩
    rw [hasN_hi _ _ (by omega), bv_and, BitVec.getLsbD_and, mask_bit (by omega), decide_eq_false (by omega : ¬ k < 36), Bool.and_false]

set_option maxHeartbeats 2000000 in
theorem mask_any (x y : Int) (w : World) : Calls Try.prog 87 #[.agg (vrow .u64 [x, y]).toArray] w fun e w' => e = .returned (.agg (vrow .u64 [x, bits .and .u64 y 68719476735]).toArray) ∧ Below w.heap.size w w' := by
  have hz := zeroCells
  go_enter Try.func87, Try.ntmps87
  go_upto_region 1 with (fail)
  obtain ⟨W, hW⟩ : ∃ W, W = (w.alloc (.cells (vrow .u64 [x, y]).toArray 40)).alloc (.cells (zrow .u64 2).toArray 40) := ⟨_, rfl⟩
  have HC := Lib.hid (boxed2 w (vrow .u64 [x, y]) (zrow .u64 2) 40 40)
  rw [← hW] at HC ⊢
  clear hW
  have HR := Lib.hid (HC.out.blk (w.heap.size + 1, zrow .u64 2, 40) (by simp))
  have c0 : W.cell? ⟨w.heap.size, 0, none⟩ = some (.int .u64 x) := (HC.out.blk (w.heap.size, vrow .u64 [x, y], 40) (by simp)).cell rfl
  have c1 : W.cell? ⟨w.heap.size, 1, none⟩ = some (.int .u64 y) := (HC.out.blk (w.heap.size, vrow .u64 [x, y], 40) (by simp)).cell rfl
  go_wp2_with (first
    | (with_reducible refine wpList_store_all rfl 40 (.tmp 2) (.tmp 8) rfl _ (vrow .u64 [x, bits .and .u64 y 68719476735]) rfl rfl HR.out rfl (by kernel_rfl) (vrow_one _ _) ?_))
  exact post_blk (p := 2) (T := 40) rfl rfl rfl (HR.out.row _) Try.underlying40 rfl (by kernel_rfl) ⟨rfl, below_setRow HC.out.below (by omega) _⟩

set_option maxHeartbeats 2000000 in
theorem union_any {U V : List Int} (hU : ClOk U) (hV : ClOk V) (w : World) : Calls Try.prog 58 #[.agg (vrow .u64 U).toArray, .agg (vrow .u64 V).toArray] w fun e w' => e = .returned (.agg (vrow .u64 (setTo (fun j => hasN U j || hasN V j) 100)).toArray) ∧ Below w.heap.size w w' := by
  have hz := zeroCells
  have HQ := Lib.hid (either_setTo hU hV)
  obtain ⟨x, y, rfl, _⟩ := hU.two
  obtain ⟨a, b, rfl, _⟩ := hV.two
  clear hU hV
  have HE : Hid (setTo (fun j => hasN [x, y] j || hasN [a, b] j) 100 = [bits .or .u64 x a, bits .and .u64 (bits .or .u64 y b) 68719476735]) := Lib.hid HQ.out.symm
  rw [HE.out]
  go_enter Try.func58, Try.ntmps58
  go_upto_region 1 with (fail)
  obtain ⟨W, hW⟩ : ∃ W, W = ((w.alloc (.cells (vrow .u64 [x, y]).toArray 40)).alloc (.cells (vrow .u64 [a, b]).toArray 40)).alloc (.cells (zrow .u64 2).toArray 40) := ⟨_, rfl⟩
  have HC := Lib.hid (boxed3 w (vrow .u64 [x, y]) (vrow .u64 [a, b]) (zrow .u64 2) 40 40 40)
  rw [← hW] at HC ⊢
  clear hW
  have HR := Lib.hid (HC.out.blk (w.heap.size + 1 + 1, zrow .u64 2, 40) (by simp))
  have c0 : W.cell? ⟨w.heap.size, 0, none⟩ = some (.int .u64 x) := (HC.out.blk (w.heap.size, vrow .u64 [x, y], 40) (by simp)).cell rfl
  have c1 : W.cell? ⟨w.heap.size, 1, none⟩ = some (.int .u64 y) := (HC.out.blk (w.heap.size, vrow .u64 [x, y], 40) (by simp)).cell rfl
  have d0 : W.cell? ⟨w.heap.size + 1, 0, none⟩ = some (.int .u64 a) := (HC.out.blk (w.heap.size + 1, vrow .u64 [a, b], 40) (by simp)).cell rfl
  have d1 : W.cell? ⟨w.heap.size + 1, 1, none⟩ = some (.int .u64 b) := (HC.out.blk (w.heap.size + 1, vrow .u64 [a, b], 40) (by simp)).cell rfl
  go_wp2_with (first
    | (go_at_call 87; refine (mask_any (bits .or .u64 x a) (bits .or .u64 y b) _).mono ?_; rintro e w2 ⟨rfl, hb⟩; have HC2 := Lib.hid (HC.out.step hb); clear hb)
    | (with_reducible refine wpList_store_all rfl 40 (.tmp 4) (.tmp 16) rfl _ (vrow .u64 [bits .or .u64 x a, bits .and .u64 (bits .or .u64 y b) 68719476735]) rfl rfl (HC2.out.blk (w.heap.size + 1 + 1, zrow .u64 2, 40) (by simp)) rfl (by kernel_rfl) (vrow_one _ _) ?_))
  exact post_blk (p := 4) (T := 40) rfl rfl rfl ((HC2.out.blk (w.heap.size + 1 + 1, zrow .u64 2, 40) (by simp)).row _) Try.underlying40 rfl (by kernel_rfl) ⟨rfl, below_setRow HC2.out.below (by omega) _⟩
end Go.Proofs.Ytmhkechkkpppaaa
