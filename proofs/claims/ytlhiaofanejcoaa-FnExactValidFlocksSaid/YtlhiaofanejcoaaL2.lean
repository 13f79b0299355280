/- Two fields held against each other, by the reference; sums of seeds; all losses. No condition but that the numbers are within their kinds. -/
import Derived.Test.YtlhiaofanejcoaaL1
import Derived.Test.YtlhiaofanejcoaaO1
namespace Go.Proofs.Ytlhiaofanejcoaa
open Go.RowKit
set_option linter.unusedSimpArgs false
set_option linter.unusedVariables false

set_option maxHeartbeats 2000000 in
theorem l06Pair_any (F G : Fld) (hF : F.Ok) (hG : G.Ok) (b c : Nat) (w : World) (hf : IsF w b F) (hg : IsF w c G) :
    Calls Try.prog 64 #[.pointer (some ⟨b, 0, none⟩), .pointer (some ⟨c, 0, none⟩)] w fun e w' => e = .returned (.int .i64 (pairCode F G)) ∧ Below w.heap.size w w' := by
  have HF := Lib.hid hf
  have HG := Lib.hid hg
  have HO := Lib.hid hF
  have HP := Lib.hid hG
  clear hf hg hF hG
  go_enter Try.func64, Try.ntmps64
  cases hv : F.valid
  · have HV := Lib.hid hv
    have HC : Hid (pairCode F G = 1) := Lib.hid (pairCode_inv (by rw [hv]; rfl))
    clear hv
    go_wp2_with (go_at_call 60; (with_reducible refine (l01Ok_any F HO.out _ _ HF.out).mono ?_); rintro e w1 ⟨rfl, rfl⟩; rw [HV.out])
    go_ret
    exact ⟨ret_i64 HC.out.symm, Below.refl _ _⟩
  cases hv2 : G.valid
  · have HV := Lib.hid hv
    have HV2 := Lib.hid hv2
    have HC : Hid (pairCode F G = 1) := Lib.hid (pairCode_inv (by rw [hv, hv2]; rfl))
    clear hv hv2
    go_wp2_with (first
      | (go_at_call 60; (with_reducible refine (l01Ok_any F HO.out _ _ HF.out).mono ?_); rintro e w1 ⟨rfl, rfl⟩; rw [HV.out]; have tok := HV)
      | (go_at_call 60; (with_reducible refine (l01Ok_any G HP.out _ _ HG.out).mono ?_); rintro e w1 ⟨rfl, rfl⟩; rw [HV2.out]))
    go_ret
    exact ⟨ret_i64 HC.out.symm, Below.refl _ _⟩
  have HV := Lib.hid hv
  have HV2 := Lib.hid hv2
  have HT : Hid ((F.valid && G.valid) = true) := Lib.hid (by rw [hv, hv2]; rfl)
  clear hv hv2
  go_upto_region 3 with (first
    | (go_at_call 60; (with_reducible refine (l01Ok_any F HO.out _ _ HF.out).mono ?_); rintro e w1 ⟨rfl, rfl⟩; rw [HV.out])
    | (go_at_call 60; (with_reducible refine (l01Ok_any G HP.out _ _ HG.out).mono ?_); rintro e w1 ⟨rfl, rfl⟩; rw [HV2.out]))
  clear HV HV2
  have hc0 := HF.out.c0
  have hc1 := HF.out.c1
  have hd0 := HG.out.c0
  have hd1 := HG.out.c1
  cases b1 : (F.wide != G.wide)
  case true =>
    have HC : Hid (pairCode F G = 4) := Lib.hid (pairCode_st HT.out (by
      have : (F.wide == G.wide) = false := by simpa [bne] using b1
      simp [sameB, this]))
    go_quiet (fail)
    go_wp2
    go_ret
    exact ⟨ret_i64 HC.out.symm, by repeat (first | exact Below.refl _ _ | refine below_drewN ?_ _)⟩
  case false =>
    cases b2 : (F.high != G.high)
    case true =>
      have HC : Hid (pairCode F G = 4) := Lib.hid (pairCode_st HT.out (by
        have : (F.high == G.high) = false := by simpa [bne] using b2
        simp [sameB, this]))
      go_quiet (fail)
      go_wp2
      go_ret
      exact ⟨ret_i64 HC.out.symm, by repeat (first | exact Below.refl _ _ | refine below_drewN ?_ _)⟩
    case false =>
      have HS1 := Lib.hid b1
      have HS2 := Lib.hid b2
      refine wp_region_quiet_lit (by kernel_rfl) (by kernel_rfl) ?_
      repeat (first
        | (with_reducible refine q_load (some 38) rfl rfl 23 (.tmp 37) rfl b 2 rfl (vrow .u8 F.kinds) _ (by rintro _ ⟨n, rfl⟩; exact HF.out.drewN n) HO.out.kpart Try.underlying23 rfl (by rw [vrow_len, HO.out.kl]; kernel_rfl) ?_)
        | (with_reducible refine q_load (some 42) rfl rfl 23 (.tmp 41) rfl c 2 rfl (vrow .u8 G.kinds) _ (by rintro _ ⟨n, rfl⟩; exact HG.out.drewN n) HP.out.kpart Try.underlying23 rfl (by rw [vrow_len, HP.out.kl]; kernel_rfl) ?_)
        | (with_reducible refine q_neq_row (some 43) rfl rfl 23 23 (.tmp 38) (.tmp 42) rfl 5 .u8 100 Try.underlying23 Try.underlying5 (size_of_info (by kernel_rfl)) (by kernel_rfl) F.kinds G.kinds HO.out.kl HP.out.kl rfl rfl ?_)
        | quiet_step (fail))
      refine wpQuiet_nil ?_
      rintro w3 ⟨nq, rfl⟩
      cases b3 : (F.kinds == G.kinds)
      case false =>
        have HC : Hid (pairCode F G = 4) := Lib.hid (pairCode_st HT.out (by simp [sameB, b3]))
        clear hc0 hc1 hd0 hd1
        go_wp2
        go_ret
        exact ⟨ret_i64 HC.out.symm, by repeat (first | exact Below.refl _ _ | refine below_drewN ?_ _)⟩
      case true =>
        have HS : Hid (sameB F G = true) := Lib.hid (by
          have e1 : (F.wide == G.wide) = true := by simpa [bne] using HS1.out
          have e2 : (F.high == G.high) = true := by simpa [bne] using HS2.out
          simp [sameB, b3, e1, e2])
        clear hc0 hc1 hd0 hd1
        go_wp2
        go_loopw [5] (fun v wr => ∃ i : Nat, i ≤ 100 ∧ v = .int .i64 i ∧ Hid (∀ j, j < i → decide (G.seed j ≤ F.seed j) = true) ∧ ∃ n, wr = w.drewN n) (fun v _ => 100 - (intOf v).toNat)
        case atStart => exact ⟨0, by omega, rfl, Lib.hid (fun j hj => by omega), _, rfl⟩
        case round =>
          obtain ⟨i, hi, rfl, HR, n, rfl⟩ := hrel
          by_cases hlt : i < 100
          · have cf := HF.out.cs HO.out hlt
            have cg := HG.out.cs HP.out hlt
            by_cases hg : G.seed i ≤ F.seed i
            · have HD : Hid (decide (G.seed i ≤ F.seed i) = true) := Lib.hid (decide_eq_true hg)
              go_wp2
              go_quiet (fail)
              go_wp2
              go_roundw
              case rel => exact ⟨i + 1, by omega, by go_num, Lib.hid (fun j hj => by
                rcases Nat.lt_or_ge j i with h | h
                · exact HR.out j h
                · have e : j = i := by omega
                  rw [e]; exact HD.out), _, rfl⟩
              case measure => simp [intOf]; omega
            · have HC : Hid (pairCode F G = 4) := Lib.hid (pairCode_st HT.out (by
                have : lessB F G = false := allB_no i hlt (decide_eq_false hg)
                simp [this]))
              go_wp2
              go_quiet (fail)
              go_wp2
              go_ret
              exact ⟨ret_i64 HC.out.symm, by repeat (first | exact Below.refl _ _ | refine below_drewN ?_ _)⟩
          · have HC : Hid (pairCode F G = 0) := Lib.hid (pairCode_ok HT.out (by
              have : lessB F G = true := allB_yes fun j hj => HR.out j (by omega)
              rw [this, HS.out]; rfl))
            go_wp2
            go_ret
            exact ⟨ret_i64 HC.out.symm, by repeat (first | exact Below.refl _ _ | refine below_drewN ?_ _)⟩

/-- The sum of the first seeds. -/
def Fld.sumTo (F : Fld) : Nat → Int
  | 0 => 0
  | i + 1 => F.sumTo i + F.seed i
theorem Fld.sumTo_bd {F : Fld} (h : F.Ok) : ∀ i : Nat, -(32768 * (i : Int)) ≤ F.sumTo i ∧ F.sumTo i ≤ 32768 * (i : Int)
  | 0 => ⟨by simp [Fld.sumTo], by simp [Fld.sumTo]⟩
  | i + 1 => by
    have h1 := Fld.sumTo_bd h i
    have h2 := h.sb i
    simp only [Fld.sumTo]
    omega

theorem l01Sum_any (F : Fld) (ho : F.Ok) (b : Nat) (w : World) (hf : IsF w b F) :
    Calls Try.prog 65 #[.pointer (some ⟨b, 0, none⟩)] w fun e w' => e = .returned (.int .i64 (F.sumTo 100)) ∧ w = w' := by
  have HF := Lib.hid hf
  have HO := Lib.hid ho
  clear hf ho
  go_enter Try.func65, Try.ntmps65
  go_wp2
  go_loop [3, 4] (fun s v => ∃ i : Nat, i ≤ 100 ∧ v = .int .i64 i ∧ s = .int .i64 (F.sumTo i)) (fun _ v => 100 - (intOf v).toNat)
  case atStart => exact ⟨0, by omega, rfl, rfl⟩
  case round =>
    obtain ⟨i, hi, rfl, rfl⟩ := hrel
    by_cases hlt : i < 100
    · have cf := HF.out.cs HO.out hlt
      have sb := HO.out.sb i
      obtain ⟨sb0, sb1⟩ := sb
      have tb := Fld.sumTo_bd HO.out i
      obtain ⟨tb0, tb1⟩ := tb
      go_wp2
      go_round
      case rel => exact ⟨i + 1, by omega, by go_num, by simp only [Fld.sumTo]⟩
      case measure => simp [intOf]; omega
    · have e : Hid (i = 100) := Lib.hid (by omega)
      go_wp2
      go_ret
      exact ⟨ret_i64 (by rw [e.out]), rfl⟩

-- beside 65
theorem seedsIn_any (F : Fld) (ho : F.Ok) (b : Nat) (w : World) (hf : IsF w b F) :
    Calls Try.prog 67 #[.pointer (some ⟨b, 0, none⟩)] w fun e w' => e = .returned (.int .i64 (F.sumTo 100)) ∧ w = w' := by
  have HF := Lib.hid hf
  have HO := Lib.hid ho
  clear hf ho
  go_enter Try.func67, Try.ntmps67
  go_wp2_with (first
    | (with_reducible refine wpList_load_blk rfl 25 (.tmp 8) rfl _ 102 rfl (vrow .i16 F.seeds) _ HF.out HO.out.spart Try.underlying25 rfl (by rw [vrow_len, HO.out.sl]; kernel_rfl) ?_))
  go_loop [3, 10] (fun s v => ∃ i : Nat, i ≤ 100 ∧ v = .int .i64 i ∧ s = .int .i64 (F.sumTo i)) (fun _ v => 100 - (intOf v).toNat)
  case atStart => exact ⟨0, by omega, rfl, rfl⟩
  case round =>
    obtain ⟨i, hi, rfl, rfl⟩ := hrel
    by_cases hlt : i < 100
    · have hix : ∀ w, (Instr.index 25 (.agg (vrow .i16 F.seeds).toArray) (.int .i64 i)).run Try.prog w = .ok (.int .i16 (F.seed i)) w := fun w => run_index_row w 25 24 .i16 .i64 100 Try.underlying25 Try.underlying24 (size_of_info (by kernel_rfl)) F.seeds HO.out.sl hlt
      have sb := HO.out.sb i
      obtain ⟨sb0, sb1⟩ := sb
      have tb := Fld.sumTo_bd HO.out i
      obtain ⟨tb0, tb1⟩ := tb
      go_wp2
      go_round
      case rel => exact ⟨i + 1, by omega, by go_num, by simp only [Fld.sumTo]⟩
      case measure => simp [intOf]; omega
    · have e : Hid (i = 100) := Lib.hid (by omega)
      go_wp2
      go_ret
      exact ⟨ret_i64 (by rw [e.out]), rfl⟩

/-- All losses, and the code. -/
noncomputable def allLoss (F G : Fld) : Int × Int := if pairCode F G = 0 then (F.sumTo 100 - G.sumTo 100, 0) else (0, pairCode F G)

theorem sAllLoss_any (F G : Fld) (hF : F.Ok) (hG : G.Ok) (w : World) :
    Calls Try.prog 22 #[.agg F.vals.toArray, .agg G.vals.toArray] w fun e w' => e = .returned (.tuple #[.int .i64 (allLoss F G).1, .int .i64 (allLoss F G).2]) ∧ Below w.heap.size w w' := by
  have HO := Lib.hid hF
  have HP := Lib.hid hG
  clear hF hG
  go_enter Try.func22, Try.ntmps22
  have HC := Lib.hid (boxed2 w F.vals G.vals 30 30)
  by_cases hp : pairCode F G = 0
  · have HR : Hid (allLoss F G = (F.sumTo 100 - G.sumTo 100, 0)) := Lib.hid (by unfold allLoss; rw [if_pos hp])
    have HQ := Lib.hid hp
    clear hp
    have tb := Fld.sumTo_bd HO.out 100
    have tc := Fld.sumTo_bd HP.out 100
    obtain ⟨tb0, tb1⟩ := tb
    obtain ⟨tc0, tc1⟩ := tc
    simp only [Int.reduceMul, Int.cast_ofNat_Int, Int.reduceNeg] at tb0 tb1 tc0 tc1
    go_wp2_with (first
      | (go_at_call 64; refine (l06Pair_any F G HO.out HP.out _ _ _ (HC.out.blk (w.heap.size, F.vals, 30) (by simp)) (HC.out.blk (w.heap.size + 1, G.vals, 30) (by simp))).mono ?_; rintro e w1 ⟨rfl, hb⟩; rw [HQ.out]; have HC1 := Lib.hid (HC.out.step hb); clear hb)
      | (go_at_call_of 65 (Value.pointer (some { block := w.heap.size, off := 0 })); refine (l01Sum_any F HO.out _ _ (HC1.out.blk (w.heap.size, F.vals, 30) (by simp))).mono ?_; rintro e w2 ⟨rfl, rfl⟩)
      | (go_at_call 65; refine (l01Sum_any G HP.out _ _ (HC1.out.blk (w.heap.size + 1, G.vals, 30) (by simp))).mono ?_; rintro e w2 ⟨rfl, rfl⟩))
    go_ret2
    exact ⟨by rw [HR.out]; rfl, HC1.out.below⟩
  · have HR : Hid (allLoss F G = (0, pairCode F G)) := Lib.hid (by unfold allLoss; rw [if_neg hp])
    have hp' : (pairCode F G != 0) = true := by simpa using hp
    go_wp2_with (first
      | (go_at_call 64; refine (l06Pair_any F G HO.out HP.out _ _ _ (HC.out.blk (w.heap.size, F.vals, 30) (by simp)) (HC.out.blk (w.heap.size + 1, G.vals, 30) (by simp))).mono ?_; rintro e w1 ⟨rfl, hb⟩; have HC1 := Lib.hid (HC.out.step hb); clear hb))
    go_ret2
    exact ⟨by rw [HR.out]; rfl, HC1.out.below⟩

theorem iAllLoss_any (F G : Fld) (hF : F.Ok) (hG : G.Ok) (w : World) :
    Calls Try.prog 23 #[.agg F.vals.toArray, .agg G.vals.toArray] w fun e w' => e = .returned (.tuple #[.int .i64 (allLoss F G).1, .int .i64 (allLoss F G).2]) ∧ Below w.heap.size w w' := by
  have HO := Lib.hid hF
  have HP := Lib.hid hG
  clear hF hG
  go_enter Try.func23, Try.ntmps23
  have HC := Lib.hid (boxed2 w F.vals G.vals 30 30)
  by_cases hp : pairCode F G = 0
  · have HR : Hid (allLoss F G = (F.sumTo 100 - G.sumTo 100, 0)) := Lib.hid (by unfold allLoss; rw [if_pos hp])
    have HQ := Lib.hid hp
    clear hp
    have tb := Fld.sumTo_bd HO.out 100
    have tc := Fld.sumTo_bd HP.out 100
    obtain ⟨tb0, tb1⟩ := tb
    obtain ⟨tc0, tc1⟩ := tc
    simp only [Int.reduceMul, Int.cast_ofNat_Int, Int.reduceNeg] at tb0 tb1 tc0 tc1
    go_wp2_with (first
      | (go_at_call 66; refine (lossCode_any F G HO.out HP.out _ _ _ (HC.out.blk (w.heap.size, F.vals, 30) (by simp)) (HC.out.blk (w.heap.size + 1, G.vals, 30) (by simp))).mono ?_; rintro e w1 ⟨rfl, hb⟩; rw [HQ.out]; have HC1 := Lib.hid (HC.out.step hb); clear hb)
      | (go_at_call_of 67 (Value.pointer (some { block := w.heap.size, off := 0 })); refine (seedsIn_any F HO.out _ _ (HC1.out.blk (w.heap.size, F.vals, 30) (by simp))).mono ?_; rintro e w2 ⟨rfl, rfl⟩)
      | (go_at_call 67; refine (seedsIn_any G HP.out _ _ (HC1.out.blk (w.heap.size + 1, G.vals, 30) (by simp))).mono ?_; rintro e w2 ⟨rfl, rfl⟩))
    go_ret2
    exact ⟨by rw [HR.out]; rfl, HC1.out.below⟩
  · have HR : Hid (allLoss F G = (0, pairCode F G)) := Lib.hid (by unfold allLoss; rw [if_neg hp])
    have hp' : (pairCode F G != 0) = true := by simpa using hp
    go_wp2_with (first
      | (go_at_call 66; refine (lossCode_any F G HO.out HP.out _ _ _ (HC.out.blk (w.heap.size, F.vals, 30) (by simp)) (HC.out.blk (w.heap.size + 1, G.vals, 30) (by simp))).mono ?_; rintro e w1 ⟨rfl, hb⟩; have HC1 := Lib.hid (HC.out.step hb); clear hb))
    go_ret2
    exact ⟨by rw [HR.out]; rfl, HC1.out.below⟩

end Go.Proofs.Ytlhiaofanejcoaa
