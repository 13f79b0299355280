/- LossOf, by the program and by the reference: the same. No condition but that the numbers are within their kinds. -/
import Derived.Test.YtlhiaofanejcoaaL3
import Derived.Test.YtlhiaofanejcoaaG2
namespace Go.Proofs.Ytlhiaofanejcoaa
open Go.RowKit
set_option linter.unusedSimpArgs false
set_option linter.unusedVariables false

theorem run_storeCells_blk {P : Program} {w : World} {g : Nat} {cs vs : List Value} {T : TypeId} (hB : Blk w g cs T) (hl : vs.length = cs.length) (h1 : ∀ v ∈ vs, v.oneCell' = true) :
    Sem.run P (storeCells ⟨g, 0, none⟩ vs) w = .ok () (w.setRow g vs.toArray) := by
  have := run_storeCells_at (P := P) g 0 T vs 0 cs.toArray w hB (show 0 + 0 + vs.length ≤ cs.toArray.size by rw [List.size_toArray]; omega) h1
  rw [this]
  have e : List.drop (0 + 0 + vs.length) cs.toArray.toList = [] := List.drop_eq_nil_iff.2 (show cs.length ≤ 0 + 0 + vs.length by omega)
  rw [e, List.append_nil]
  rfl

theorem zrow_one (k : IntKind) (n : Nat) : ∀ v ∈ zrow k n, v.oneCell' = true := by intro v hv; rw [List.eq_of_mem_replicate hv]; rfl
theorem vrow_zero (k : IntKind) (n : Nat) : vrow k (List.replicate n 0) = zrow k n := by simp [vrow, zrow]


theorem zero16 (w : World) : (zeroValue 25).run Try.prog w = .ok (.agg (zrow .i16 100).toArray) w := (zero_of_info (by kernel_rfl : (Try.prog.info? 25).map (fun i => (i.zero, i.size)) = some (some (.agg (zrow .i16 100).toArray), 100))).1 w

noncomputable def lossRes (F G : Fld) : List Int × Int := if pairCode F G = 0 then (lossList F G, 0) else (List.replicate 100 0, pairCode F G)
theorem lossRes_len (F G : Fld) : (lossRes F G).1.length = 100 := by
  unfold lossRes
  split
  · exact lossList_len F G
  · simp

theorem iLossOf_any (F G : Fld) (hF : F.Ok) (hG : G.Ok) (w : World) :
    Calls Try.prog 25 #[.agg F.vals.toArray, .agg G.vals.toArray] w fun e w' => e = .returned (.tuple #[.agg (vrow .i16 (lossRes F G).1).toArray, .int .i64 (lossRes F G).2]) ∧ Below w.heap.size w w' := by
  have HO := Lib.hid hF
  have HP := Lib.hid hG
  clear hF hG
  have hz : ∀ w, (zeroValue 25).run Try.prog w = .ok (.agg (zrow .i16 100).toArray) w := fun w => (zero_of_info (by kernel_rfl : (Try.prog.info? 25).map (fun i => (i.zero, i.size)) = some (some (.agg (zrow .i16 100).toArray), 100))).1 w
  go_enter Try.func25, Try.ntmps25
  have HC := Lib.hid (boxed3 w F.vals G.vals (zrow .i16 100) 30 30 25)
  by_cases hp : pairCode F G = 0
  · have HR : Hid (lossRes F G = (lossList F G, 0)) := Lib.hid (by unfold lossRes; rw [if_pos hp])
    have HQ := Lib.hid hp
    clear hp
    go_wp2_with (first
      | (go_at_call 66; refine (lossCode_any F G HO.out HP.out _ _ _ (HC.out.blk (w.heap.size, F.vals, 30) (by simp)) (HC.out.blk (w.heap.size + 1, G.vals, 30) (by simp))).mono ?_; rintro e w1 ⟨rfl, hb⟩; rw [HQ.out]; have HC1 := Lib.hid (HC.out.step hb); clear hb)
      | (go_at_call 69; refine (lossOf_any F G HO.out HP.out _ _ _ (HC1.out.blk (w.heap.size, F.vals, 30) (by simp)) (HC1.out.blk (w.heap.size + 1, G.vals, 30) (by simp))).mono ?_; rintro e w2 ⟨rfl, hb⟩; have HC2 := Lib.hid (HC1.out.step hb); clear hb)
      | (with_reducible refine wpList_store_all rfl 25 (.tmp 4) (.tmp 12) rfl _ (vrow .i16 (lossList F G)) rfl rfl (HC2.out.blk (w.heap.size + 1 + 1, zrow .i16 100, 25) (by simp)) (by rw [vrow_len, zrow_len, lossList_len]) (by rw [vrow_len, lossList_len]; kernel_rfl) (vrow_one _ _) ?_))
    rw [HR.out]
    exact post_blk2 (p := 4) (q := 5) (T := 25) rfl rfl rfl rfl ((HC2.out.blk (w.heap.size + 1 + 1, zrow .i16 100, 25) (by simp)).row _) Try.underlying25 rfl (by rw [vrow_len, lossList_len]; kernel_rfl) ⟨rfl, below_setRow HC2.out.below (by omega) _⟩
  · have HR : Hid (lossRes F G = (List.replicate 100 0, pairCode F G)) := Lib.hid (by unfold lossRes; rw [if_neg hp])
    have hp' : (pairCode F G != 0) = true := by simpa using hp
    go_wp2_with (first
      | (go_at_call 66; refine (lossCode_any F G HO.out HP.out _ _ _ (HC.out.blk (w.heap.size, F.vals, 30) (by simp)) (HC.out.blk (w.heap.size + 1, G.vals, 30) (by simp))).mono ?_; rintro e w1 ⟨rfl, hb⟩; have HC1 := Lib.hid (HC.out.step hb); clear hb; have hst := run_storeCells_blk (P := Try.prog) (HC1.out.blk (w.heap.size + 1 + 1, zrow .i16 100, 25) (by simp)) (vs := zrow .i16 100) rfl (zrow_one _ _)))
    rw [HR.out]
    exact post_blk2 (p := 4) (q := 5) (T := 25) rfl rfl rfl rfl (by rw [vrow_zero]; exact (HC1.out.blk (w.heap.size + 1 + 1, zrow .i16 100, 25) (by simp)).row _) Try.underlying25 rfl (by rw [vrow_len, List.length_replicate]; kernel_rfl) ⟨rfl, below_setRow HC1.out.below (by omega) _⟩

theorem sLossOf_any (F G : Fld) (hF : F.Ok) (hG : G.Ok) (w : World) :
    Calls Try.prog 24 #[.agg F.vals.toArray, .agg G.vals.toArray] w fun e w' => e = .returned (.tuple #[.agg (vrow .i16 (lossRes F G).1).toArray, .int .i64 (lossRes F G).2]) ∧ Below w.heap.size w w' := by
  have HO := Lib.hid hF
  have HP := Lib.hid hG
  clear hF hG
  have hz : ∀ w, (zeroValue 25).run Try.prog w = .ok (.agg (zrow .i16 100).toArray) w := fun w => (zero_of_info (by kernel_rfl : (Try.prog.info? 25).map (fun i => (i.zero, i.size)) = some (some (.agg (zrow .i16 100).toArray), 100))).1 w
  go_enter Try.func24, Try.ntmps24
  have HC := Lib.hid (boxed3 w F.vals G.vals (zrow .i16 100) 30 30 25)
  by_cases hp : pairCode F G = 0
  · have HR : Hid (lossRes F G = (lossList F G, 0)) := Lib.hid (by unfold lossRes; rw [if_pos hp])
    have HQ := Lib.hid hp
    clear hp
    go_wp2_with (first
      | (go_at_call 64; refine (l06Pair_any F G HO.out HP.out _ _ _ (HC.out.blk (w.heap.size, F.vals, 30) (by simp)) (HC.out.blk (w.heap.size + 1, G.vals, 30) (by simp))).mono ?_; rintro e w1 ⟨rfl, hb⟩; rw [HQ.out]; have HC1 := Lib.hid (HC.out.step hb); clear hb)
      | (go_at_call 68; refine (l06Loss_any F G HO.out HP.out _ _ _ (HC1.out.blk (w.heap.size, F.vals, 30) (by simp)) (HC1.out.blk (w.heap.size + 1, G.vals, 30) (by simp))).mono ?_; rintro e w2 ⟨rfl, hb⟩; have HC2 := Lib.hid (HC1.out.step hb); clear hb)
      | (with_reducible refine wpList_store_all rfl 25 (.tmp 4) (.tmp 12) rfl _ (vrow .i16 (lossList F G)) rfl rfl (HC2.out.blk (w.heap.size + 1 + 1, zrow .i16 100, 25) (by simp)) (by rw [vrow_len, zrow_len, lossList_len]) (by rw [vrow_len, lossList_len]; kernel_rfl) (vrow_one _ _) ?_))
    rw [HR.out]
    exact post_blk2 (p := 4) (q := 5) (T := 25) rfl rfl rfl rfl ((HC2.out.blk (w.heap.size + 1 + 1, zrow .i16 100, 25) (by simp)).row _) Try.underlying25 rfl (by rw [vrow_len, lossList_len]; kernel_rfl) ⟨rfl, below_setRow HC2.out.below (by omega) _⟩
  · have HR : Hid (lossRes F G = (List.replicate 100 0, pairCode F G)) := Lib.hid (by unfold lossRes; rw [if_neg hp])
    have hp' : (pairCode F G != 0) = true := by simpa using hp
    go_wp2_with (first
      | (go_at_call 64; refine (l06Pair_any F G HO.out HP.out _ _ _ (HC.out.blk (w.heap.size, F.vals, 30) (by simp)) (HC.out.blk (w.heap.size + 1, G.vals, 30) (by simp))).mono ?_; rintro e w1 ⟨rfl, hb⟩; have HC1 := Lib.hid (HC.out.step hb); clear hb; have hst := run_storeCells_blk (P := Try.prog) (HC1.out.blk (w.heap.size + 1 + 1, zrow .i16 100, 25) (by simp)) (vs := zrow .i16 100) rfl (zrow_one _ _)))
    rw [HR.out]
    exact post_blk2 (p := 4) (q := 5) (T := 25) rfl rfl rfl rfl (by rw [vrow_zero]; exact (HC1.out.blk (w.heap.size + 1 + 1, zrow .i16 100, 25) (by simp)).row _) Try.underlying25 rfl (by rw [vrow_len, List.length_replicate]; kernel_rfl) ⟨rfl, below_setRow HC1.out.below (by omega) _⟩

set_option maxHeartbeats 1000000 in
theorem eqInt16s_any (xs ys : List Int) (hx : xs.length = 100) (hy : ys.length = 100) (h : xs = ys) (w : World) :
    Calls Try.prog 26 #[.agg (vrow .i16 xs).toArray, .agg (vrow .i16 ys).toArray] w fun e w' => e = .returned (.bool true) ∧ Below w.heap.size w w' := by
  obtain rfl := h
  clear hy
  go_enter Try.func26, Try.ntmps26
  go_upto_region 1 with (fail)
  obtain ⟨W, hW⟩ : ∃ W, W = (w.alloc (.cells (vrow .i16 xs).toArray 25)).alloc (.cells (vrow .i16 xs).toArray 25) := ⟨_, rfl⟩
  have HC := Lib.hid (boxed2 w (vrow .i16 xs) (vrow .i16 xs) 25 25)
  rw [← hW] at HC ⊢
  clear hW
  go_wp2
  go_loopw [5] (fun v wr => ∃ i : Nat, i ≤ 100 ∧ v = .int .i64 i ∧ ∃ n, wr = W.drewN n) (fun v _ => 100 - (intOf v).toNat)
  case atStart => exact ⟨0, by omega, rfl, 0, rfl⟩
  case round =>
    obtain ⟨i, hi, rfl, n, rfl⟩ := hrel
    by_cases hlt : i < 100
    · have c1 := (HC.out.blk (w.heap.size, vrow .i16 xs, 25) (by simp)).cell (vrow_get (k := .i16) (zs := xs) (i := i) (by omega))
      have c2 := (HC.out.blk (w.heap.size + 1, vrow .i16 xs, 25) (by simp)).cell (vrow_get (k := .i16) (zs := xs) (i := i) (by omega))
      have hne : (nth xs i != nth xs i) = false := by simp
      simp only at c1 c2
      go_wp2
      go_quiet (fail)
      go_wp2
      go_roundw
      case rel => exact ⟨i + 1, by omega, by go_num, _, rfl⟩
      case measure => simp [intOf]; omega
    · go_wp2
      go_ret
      exact ⟨rfl, below_drewN HC.out.below _⟩

end Go.Proofs.Ytlhiaofanejcoaa
