/- BareCells, by the program and by the reference: the same. No condition but that the numbers are within their kinds. -/
import Derived.Test.YtlhiaofanejcoaaP3
import Derived.Test.YtlhiaofanejcoaaL5
namespace Go.Proofs.Ytlhiaofanejcoaa
open Go.RowKit
set_option linter.unusedSimpArgs false
set_option linter.unusedVariables false

set_option maxHeartbeats 1000000 in
theorem eqCells_any (xs ys : List Int) (hx : xs.length = 2) (hy : ys.length = 2) (h : xs = ys) (w : World) :
    Calls Try.prog 29 #[.agg (vrow .u64 xs).toArray, .agg (vrow .u64 ys).toArray] w fun e w' => e = .returned (.bool true) ∧ Below w.heap.size w w' := by
  obtain rfl := h
  clear hy
  go_enter Try.func29, Try.ntmps29
  go_upto_region 1 with (fail)
  obtain ⟨W, hW⟩ : ∃ W, W = (w.alloc (.cells (vrow .u64 xs).toArray 49)).alloc (.cells (vrow .u64 xs).toArray 49) := ⟨_, rfl⟩
  have HC := Lib.hid (boxed2 w (vrow .u64 xs) (vrow .u64 xs) 49 49)
  rw [← hW] at HC ⊢
  clear hW
  go_wp2
  go_loopw [5] (fun v wr => ∃ i : Nat, i ≤ 2 ∧ v = .int .i64 i ∧ ∃ n, wr = W.drewN n) (fun v _ => 2 - (intOf v).toNat)
  case atStart => exact ⟨0, by omega, rfl, 0, rfl⟩
  case round =>
    obtain ⟨i, hi, rfl, n, rfl⟩ := hrel
    by_cases hlt : i < 2
    · have c1 := (HC.out.blk (w.heap.size, vrow .u64 xs, 49) (by simp)).cell (vrow_get (k := .u64) (zs := xs) (i := i) (by omega))
      have c2 := (HC.out.blk (w.heap.size + 1, vrow .u64 xs, 49) (by simp)).cell (vrow_get (k := .u64) (zs := xs) (i := i) (by omega))
      have hne : (nth xs i != nth xs i) = false := by simp
      simp only at c1 c2
      go_wp2
      go_quiet (fail)
      go_wp2
      go_roundw
      case rel => exact ⟨i + 1, by omega, by go_num, _, rfl⟩
      case measure => simp [intOf]; omega
    · go_wp2
      go_ret
      exact ⟨rfl, below_drewN HC.out.below _⟩

/-- Whether a cell has lost all its seeds. -/
def bareB (F G : Fld) (i : Nat) : Bool := decide (0 < F.seed i) && (G.seed i == 0)
noncomputable def bareRes (F G : Fld) : List Int × Int := if pairCode F G = 0 then (setTo (bareB F G) 100, 0) else (List.replicate 2 0, pairCode F G)
theorem bareRes_len (F G : Fld) : (bareRes F G).1.length = 2 := by
  unfold bareRes
  split
  · exact setTo_len _ _
  · simp
theorem bare_same {F G : Fld} (h : pairCode F G = 0) : setTo (fun j => F.has (j : Int) && bareB F G j) 100 = setTo (bareB F G) 100 := by
  refine setTo_same 100 fun i hi => ?_
  cases hx : F.has (i : Int)
  · have hv : F.valid = true := by
      unfold pairCode at h
      split at h
      case isTrue hv => rw [Bool.and_eq_true] at hv; exact hv.1
      case isFalse => simp at h
    have := ((Fld.valid_iff.1 hv).c i hi).hs hx
    unfold bareB
    rw [this]
    rfl
  · rfl

theorem bareClo_any (F G : Fld) (hF : F.Ok) (hG : G.Ok) (b c : Nat) (i : Nat) (hi : i < 100) (w : World) (hf : IsF w b F) (hg : IsF w c G) :
    Calls Try.prog 72 #[.int .i64 i, .pointer (some ⟨b, 0, none⟩), .pointer (some ⟨c, 0, none⟩)] w fun e w' => e = .returned (.bool (bareB F G i)) ∧ w = w' := by
  have c1 := hf.cs hF hi
  have c2 := hg.cs hG hi
  clear hf hg hF hG
  unfold bareB
  by_cases h : 0 < F.seed i
  · have hb : decide (0 < F.seed i) = true := decide_eq_true h
    rw [hb]
    go_enter Try.func72, Try.ntmps72
    go_wp2
    go_ret
    exact ⟨by simp, rfl⟩
  · have hb : decide (0 < F.seed i) = false := decide_eq_false h
    rw [hb]
    go_enter Try.func72, Try.ntmps72
    go_wp2
    go_ret
    exact ⟨by simp, rfl⟩

set_option maxHeartbeats 1000000 in
theorem iBare_any (F G : Fld) (hF : F.Ok) (hG : G.Ok) (w : World) :
    Calls Try.prog 28 #[.agg F.vals.toArray, .agg G.vals.toArray] w fun e w' => e = .returned (.tuple #[.agg (vrow .u64 (bareRes F G).1).toArray, .int .i64 (bareRes F G).2]) ∧ Below w.heap.size w w' := by
  have HO := Lib.hid hF
  have HP := Lib.hid hG
  clear hF hG
  have hz := zeroCells
  have hmf : ∀ (fn : Fn) (first cap : Array Value) (w : World), (Instr.makeFunc fn first cap).run Try.prog w = .ok (.func fn first cap) w := fun _ _ _ _ => rfl
  go_enter Try.func28, Try.ntmps28
  have HC := Lib.hid (boxed3 w F.vals G.vals (zrow .u64 2) 30 30 49)
  by_cases hp : pairCode F G = 0
  · have HR : Hid (bareRes F G = (setTo (bareB F G) 100, 0)) := Lib.hid (by unfold bareRes; rw [if_pos hp])
    have HQ := Lib.hid hp
    have HS := Lib.hid (bare_same hp)
    have HL := Lib.hid (setTo_len (bareB F G) 100)
    clear hp
    go_wp2_with (first
      | (go_at_call 66; refine (lossCode_any F G HO.out HP.out _ _ _ (HC.out.blk (w.heap.size, F.vals, 30) (by simp)) (HC.out.blk (w.heap.size + 1, G.vals, 30) (by simp))).mono ?_; rintro e w1 ⟨rfl, hb⟩; rw [HQ.out]; have HC1 := Lib.hid (HC.out.step hb); clear hb)
      | (go_at_call 71; refine (those_any F HO.out (bareB F G) _ 72 _ _ (HC1.out.blk (w.heap.size, F.vals, 30) (by simp)) (enters_of Try.func72 (by kernel_rfl) rfl) (fun i w2 hi hb2 => by rw [app2]; exact (bareClo_any F G HO.out HP.out w.heap.size (w.heap.size + 1) i hi w2 ((HC1.out.step hb2).blk (w.heap.size, F.vals, 30) (by simp)) ((HC1.out.step hb2).blk (w.heap.size + 1, G.vals, 30) (by simp))).mono (fun e w3 h3 => ⟨h3.1, h3.2 ▸ Below.refl _ _⟩))).mono ?_; rintro e w2 ⟨rfl, hb⟩; rw [HS.out]; have HC2 := Lib.hid (HC1.out.step hb); clear hb)
      | (with_reducible refine wpList_store_all rfl 49 (.tmp 4) (.tmp 13) rfl _ (vrow .u64 (setTo (bareB F G) 100)) rfl rfl (HC2.out.blk (w.heap.size + 1 + 1, zrow .u64 2, 49) (by simp)) (by rw [vrow_len, zrow_len, HL.out]) (by rw [vrow_len, HL.out]; kernel_rfl) (vrow_one _ _) ?_))
    rw [HR.out]
    exact post_blk2 (p := 4) (q := 5) (T := 49) rfl rfl rfl rfl ((HC2.out.blk (w.heap.size + 1 + 1, zrow .u64 2, 49) (by simp)).row _) Try.underlying49 rfl (by rw [vrow_len, HL.out]; kernel_rfl) ⟨rfl, below_setRow HC2.out.below (by omega) _⟩
  · have HR : Hid (bareRes F G = (List.replicate 2 0, pairCode F G)) := Lib.hid (by unfold bareRes; rw [if_neg hp])
    have hp' : (pairCode F G != 0) = true := by simpa using hp
    go_wp2_with (first
      | (go_at_call 66; refine (lossCode_any F G HO.out HP.out _ _ _ (HC.out.blk (w.heap.size, F.vals, 30) (by simp)) (HC.out.blk (w.heap.size + 1, G.vals, 30) (by simp))).mono ?_; rintro e w1 ⟨rfl, hb⟩; have HC1 := Lib.hid (HC.out.step hb); clear hb; have hst := run_storeCells_blk (P := Try.prog) (HC1.out.blk (w.heap.size + 1 + 1, zrow .u64 2, 49) (by simp)) (vs := zrow .u64 2) rfl (zrow_one _ _)))
    rw [HR.out]
    exact post_blk2 (p := 4) (q := 5) (T := 49) rfl rfl rfl rfl (by rw [vrow_zero]; exact (HC1.out.blk (w.heap.size + 1 + 1, zrow .u64 2, 49) (by simp)).row _) Try.underlying49 rfl (by rw [vrow_len, List.length_replicate]; kernel_rfl) ⟨rfl, below_setRow HC1.out.below (by omega) _⟩

set_option maxHeartbeats 1000000 in
theorem sBare_any (F G : Fld) (hF : F.Ok) (hG : G.Ok) (w : World) :
    Calls Try.prog 27 #[.agg F.vals.toArray, .agg G.vals.toArray] w fun e w' => e = .returned (.tuple #[.agg (vrow .u64 (bareRes F G).1).toArray, .int .i64 (bareRes F G).2]) ∧ Below w.heap.size w w' := by
  have HO := Lib.hid hF
  have HP := Lib.hid hG
  clear hF hG
  have hz := zeroCells
  go_enter Try.func27, Try.ntmps27
  have HC := Lib.hid (boxed3 w F.vals G.vals (zrow .u64 2) 30 30 49)
  by_cases hp : pairCode F G = 0
  · have HR : Hid (bareRes F G = (setTo (bareB F G) 100, 0)) := Lib.hid (by unfold bareRes; rw [if_pos hp])
    have HQ := Lib.hid hp
    have HL := Lib.hid (setTo_len (bareB F G) 100)
    clear hp
    go_upto_region 5 with (first
      | (go_at_call 64; refine (l06Pair_any F G HO.out HP.out _ _ _ (HC.out.blk (w.heap.size, F.vals, 30) (by simp)) (HC.out.blk (w.heap.size + 1, G.vals, 30) (by simp))).mono ?_; rintro e w1 ⟨rfl, hb⟩; rw [HQ.out]; have HC1 := Lib.hid (HC.out.step hb); clear hb)
      | (with_reducible refine wpList_store_all rfl 49 (.tmp 7) (.tmp 14) rfl _ (zrow .u64 2) rfl rfl (Blk.new' w1 (zrow .u64 2) 49) rfl (by rw [zrow_len]; kernel_rfl) (zrow_one _ _) ?_))
    obtain ⟨W, hW⟩ : ∃ W, W = (w1.alloc (.cells (zrow .u64 2).toArray 49)).setRow w1.heap.size (zrow .u64 2).toArray := ⟨_, rfl⟩
    have HB0 : Hid (Blk W w1.heap.size (zrow .u64 2) 49) := Lib.hid (by rw [hW]; exact (Blk.new' w1 (zrow .u64 2) 49).row _)
    have HC2 : Hid (Cls w [(w.heap.size, F.vals, 30), (w.heap.size + 1, G.vals, 30), (w.heap.size + 1 + 1, zrow .u64 2, 49)] W) := Lib.hid (HC1.out.step (by rw [hW]; exact below_setRow ((Below.refl _ _).alloc (Nat.le_refl _) _) (Nat.le_refl _) _))
    have HS := Lib.hid HC1.out.below.size
    have HA0 := Lib.hid (HC1.out.lt (w.heap.size, F.vals, 30) (by simp))
    have HA1 := Lib.hid (HC1.out.lt (w.heap.size + 1, G.vals, 30) (by simp))
    have HA2 := Lib.hid (HC1.out.lt (w.heap.size + 1 + 1, zrow .u64 2, 49) (by simp))
    rw [← hW]
    clear hW
    go_wp2
    go_loopw [8] (fun v wr => ∃ i : Nat, i ≤ 100 ∧ v = .int .i64 i ∧ Hid (Kept w1.heap.size W wr) ∧ Hid (Blk wr w1.heap.size (vrow .u64 (setTo (bareB F G) i)) 49)) (fun v _ => 100 - (intOf v).toNat)
    case atStart => exact ⟨0, by omega, rfl, Lib.hid (Kept.refl _ _), HB0⟩
    case round =>
      obtain ⟨i, hi, rfl, HK, HB⟩ := hrel
      by_cases hlt : i < 100
      · have c1 := (HK.out.blk (HC2.out.blk (w.heap.size, F.vals, 30) (by simp)) (Nat.ne_of_lt HA0.out)).cell (Fld.vs HO.out hlt)
        have c2 := (HK.out.blk (HC2.out.blk (w.heap.size + 1, G.vals, 30) (by simp)) (Nat.ne_of_lt HA1.out)).cell (Fld.vs HP.out hlt)
        simp only at c1 c2
        have hput : ∀ (hn : bareB F G i = true), setTo (bareB F G) (i + 1) = putN (setTo (bareB F G) i) i := fun hn => by simp only [setTo]; rw [if_pos hn]
        have hnot : ∀ (hn : bareB F G i = false), setTo (bareB F G) (i + 1) = setTo (bareB F G) i := fun hn => by simp only [setTo]; rw [if_neg (by rw [hn]; decide)]
        by_cases h : 0 < F.seed i
        · cases h2 : (G.seed i == 0)
          · have HN := Lib.hid (hnot (by unfold bareB; rw [h2, Bool.and_false]))
            clear hput hnot
            go_wp2
            go_roundw
            case rel => exact ⟨i + 1, by omega, by go_num, HK, by rw [HN.out]; exact HB⟩
            case measure => simp only [intOf]; omega
          · have HN := Lib.hid (hput (by unfold bareB; rw [h2, decide_eq_true h]; rfl))
            clear hput hnot
            go_wp2_with (first
              | (go_at_call 70; refine (sPut_any _ (setTo_len _ i) _ i hlt _ HB.out).mono ?_; rintro e w6 ⟨rfl, n, hw6⟩; have HK6 : Hid (Kept w1.heap.size W w6) := Lib.hid (by rw [hw6]; exact (HK.out.set _ _).drewN _); have HB6 : Hid (Blk w6 w1.heap.size (vrow .u64 (setTo (bareB F G) (i + 1))) 49) := Lib.hid (by rw [HN.out, ← putN_row, hw6]; exact (HB.out.set _ _).drewN _); clear hw6))
            go_roundw
            case rel => exact ⟨i + 1, by omega, by go_num, HK6, HB6⟩
            case measure => simp only [intOf]; omega
        · have HN := Lib.hid (hnot (by unfold bareB; rw [decide_eq_false h]; rfl))
          clear hput hnot
          go_wp2
          go_roundw
          case rel => exact ⟨i + 1, by omega, by go_num, HK, by rw [HN.out]; exact HB⟩
          case measure => simp only [intOf]; omega
      · obtain rfl : i = 100 := by omega
        have HR2 : Hid (Blk wr (w.heap.size + 1 + 1) (zrow .u64 2) 49) := Lib.hid (HK.out.blk (HC2.out.blk (w.heap.size + 1 + 1, zrow .u64 2, 49) (by simp)) (Nat.ne_of_lt HA2.out))
        have HBW : Hid (Below w.heap.size w wr) := Lib.hid (HK.out.below HC2.out.below HS.out HC2.out.below.size)
        go_wp2_with (first
          | (with_reducible refine wpList_load_blk rfl 49 (.tmp 7) rfl _ 0 rfl (vrow .u64 (setTo (bareB F G) 100)) _ HB.out (by rw [List.drop_zero, List.take_length]) Try.underlying49 rfl (by rw [vrow_len, HL.out]; kernel_rfl) ?_)
          | (with_reducible refine wpList_store_all rfl 49 (.tmp 4) (.tmp 33) rfl _ (vrow .u64 (setTo (bareB F G) 100)) rfl rfl HR2.out (by rw [vrow_len, zrow_len, HL.out]) (by rw [vrow_len, HL.out]; kernel_rfl) (vrow_one _ _) ?_))
        rw [HR.out]
        exact post_blk2 (p := 4) (q := 5) (T := 49) rfl rfl rfl rfl (HR2.out.row _) Try.underlying49 rfl (by rw [vrow_len, HL.out]; kernel_rfl) ⟨rfl, below_setRow HBW.out (by omega) _⟩
  · have HR : Hid (bareRes F G = (List.replicate 2 0, pairCode F G)) := Lib.hid (by unfold bareRes; rw [if_neg hp])
    have hp' : (pairCode F G != 0) = true := by simpa using hp
    go_wp2_with (first
      | (go_at_call 64; refine (l06Pair_any F G HO.out HP.out _ _ _ (HC.out.blk (w.heap.size, F.vals, 30) (by simp)) (HC.out.blk (w.heap.size + 1, G.vals, 30) (by simp))).mono ?_; rintro e w1 ⟨rfl, hb⟩; have HC1 := Lib.hid (HC.out.step hb); clear hb; have hst := run_storeCells_blk (P := Try.prog) (HC1.out.blk (w.heap.size + 1 + 1, zrow .u64 2, 49) (by simp)) (vs := zrow .u64 2) rfl (zrow_one _ _)))
    rw [HR.out]
    exact post_blk2 (p := 4) (q := 5) (T := 49) rfl rfl rfl rfl (by rw [vrow_zero]; exact (HC1.out.blk (w.heap.size + 1 + 1, zrow .u64 2, 49) (by simp)).row _) Try.underlying49 rfl (by rw [vrow_len, List.length_replicate]; kernel_rfl) ⟨rfl, below_setRow HC1.out.below (by omega) _⟩

end Go.Proofs.Ytlhiaofanejcoaa
