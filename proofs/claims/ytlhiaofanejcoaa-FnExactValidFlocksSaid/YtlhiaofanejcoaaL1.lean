/- Two fields held against each other: what the program and the reference say of their losses. No condition but that the numbers are within their kinds. -/
import Derived.Test.YtlhiaofanejcoaaE
import Derived.Test.YtlhiaofanejcoaaG
namespace Go.Proofs.Ytlhiaofanejcoaa
open Go.RowKit
set_option linter.unusedSimpArgs false
set_option linter.unusedVariables false

def sameB (F G : Fld) : Bool := (F.wide == G.wide) && ((F.high == G.high) && (F.kinds == G.kinds))
def lessB (F G : Fld) : Bool := allB 100 fun i => decide (G.seed i ≤ F.seed i)
noncomputable def pairCode (F G : Fld) : Int := if (F.valid && G.valid) = true then (if (sameB F G && lessB F G) = true then 0 else 4) else 1
theorem pairCode_inv {F G : Fld} (h : (F.valid && G.valid) = false) : pairCode F G = 1 := by unfold pairCode; rw [h]; rfl
theorem pairCode_st {F G : Fld} (h : (F.valid && G.valid) = true) (h2 : (sameB F G && lessB F G) = false) : pairCode F G = 4 := by unfold pairCode; rw [h, h2]; rfl
theorem pairCode_ok {F G : Fld} (h : (F.valid && G.valid) = true) (h2 : (sameB F G && lessB F G) = true) : pairCode F G = 0 := by unfold pairCode; rw [h, h2]; rfl

theorem size_of_info {P : Program} {t : TypeId} {n : Nat} (h : (P.info? t).map (·.size) = some n) : ∀ w, (sizeOf t).run P w = .ok n w := fun w => by
  cases hq : P.info? t with
  | none => simp [hq] at h
  | some i =>
    simp [hq] at h
    simp [sizeOf, typeInfo, hq, h]

/-- An element of an array by value. -/
theorem run_index_row {P : Program} (w : World) (t e : TypeId) (k q : IntKind) (n : Nat) (ht : P.underlying t = some (.array n e)) (he : P.underlying e = some (.int k)) (hsz : ∀ w, (sizeOf e).run P w = .ok 1 w)
    (xs : List Int) (hx : xs.length = n) {i : Nat} (hi : i < n) : (Instr.index t (.agg (vrow k xs).toArray) (.int q (i : Int))).run P w = .ok (.int k (nth xs i)) w := by
  have hp : (part e (vrow k xs).toArray (i * 1)).run P w = .ok (.int k (nth xs i)) w := by
    simp [part, isAgg, run_underlying he, vrow, nth, List.getD, List.getElem?_eq_getElem (show i < xs.length by omega)]
  have hc : (0 : Int) ≤ (i : Int) ∧ (i : Int) < (n : Int) := by omega
  unfold Instr.index
  simp only [asIntOf, Sem.run_bind, Sem.run_pure, Result.andThen_ok, run_underlying ht, if_pos hc, hsz, Int.toNat_natCast, hp]

/-- The array's loads and the test, in a region that draws its order. -/
theorem q_neq_row {P : Program} {ops : Array Oper} {C : World → Prop} {Qa : Act → Prop} {rest : List Oper} {oi : Oper} {a : Act} (N : Option Tmp) (hd : oi.dst = N) (hw : Region.wanted oi (yielded ops a.tmps) = true) (t t' : TypeId) (x y : Operand) (ho : oi.op = .binOp .neq t x y t')
    (e : TypeId) (k : IntKind) (n : Nat) (ht : P.underlying t = some (.array n e)) (he : P.underlying e = some (.int k)) (hsz : ∀ w, (sizeOf e).run P w = .ok 1 w) (hm : P.eqGuardType P.depth t = false)
    (xs ys : List Int) (hx : xs.length = n) (hy : ys.length = n) (hvx : a.eval x = .agg (vrow k xs).toArray) (hvy : a.eval y = .agg (vrow k ys).toArray)
    (h : wpQuiet P ops C Qa rest (a.put N (.bool (!(xs == ys))))) : wpQuiet P ops C Qa (oi :: rest) a := by
  refine q_value N hd hw _ (fun w _ => ?_) h
  unfold execOp
  simp only [ho, hvx, hvy]
  simp [run_eqGuard_agg, hm, run_neq_row w t e k n ht he hsz xs ys hx hy]

set_option maxHeartbeats 2000000 in
theorem lossCode_any (F G : Fld) (hF : F.Ok) (hG : G.Ok) (b c : Nat) (w : World) (hf : IsF w b F) (hg : IsF w c G) :
    Calls Try.prog 66 #[.pointer (some ⟨b, 0, none⟩), .pointer (some ⟨c, 0, none⟩)] w fun e w' => e = .returned (.int .i64 (pairCode F G)) ∧ Below w.heap.size w w' := by
  have HF := Lib.hid hf
  have HG := Lib.hid hg
  have HO := Lib.hid hF
  have HP := Lib.hid hG
  clear hf hg hF hG
  go_enter Try.func66, Try.ntmps66
  cases hv : F.valid
  · have HV := Lib.hid hv
    have HC : Hid (pairCode F G = 1) := Lib.hid (pairCode_inv (by rw [hv]; rfl))
    clear hv
    go_wp2_with (first
      | (with_reducible refine wpList_load_blk rfl 30 (.tmp 8) rfl _ 0 rfl F.vals _ HF.out (by rw [List.drop_zero, List.take_length]) Try.underlying30 rfl (by rw [HO.out.len]; kernel_rfl) ?_)
      | (go_at_call 58; (with_reducible refine (validField_any F HO.out _).mono ?_); rintro e w1 ⟨rfl, hb⟩; rw [HV.out]; have HB := Lib.hid hb; clear hb))
    go_ret
    exact ⟨ret_i64 HC.out.symm, HB.out⟩
  cases hv2 : G.valid
  · have HV := Lib.hid hv
    have HV2 := Lib.hid hv2
    have HC : Hid (pairCode F G = 1) := Lib.hid (pairCode_inv (by rw [hv, hv2]; rfl))
    clear hv hv2
    go_wp2_with (first
      | (with_reducible refine wpList_load_blk rfl 30 (.tmp 8) rfl _ 0 rfl F.vals _ HF.out (by rw [List.drop_zero, List.take_length]) Try.underlying30 rfl (by rw [HO.out.len]; kernel_rfl) ?_)
      | (go_at_call 58; (with_reducible refine (validField_any F HO.out _).mono ?_); rintro e w1 ⟨rfl, hb⟩; rw [HV.out]; have HB := Lib.hid hb; clear hb; have HG1 := Lib.hid (HG.out.below' HB.out))
      | (with_reducible refine wpList_guard rfl (wpList_load_blk rfl 30 (.tmp 14) rfl _ 0 rfl G.vals _ HG1.out (by rw [List.drop_zero, List.take_length]) Try.underlying30 rfl (by rw [HP.out.len]; kernel_rfl) ?_))
      | (go_at_call 58; (with_reducible refine (validField_any G HP.out _).mono ?_); rintro e w2 ⟨rfl, hb⟩; rw [HV2.out]; have HB2 := Lib.hid (HB.out.trans (hb.mono HB.out.size)); clear hb))
    go_ret
    exact ⟨ret_i64 HC.out.symm, HB2.out⟩
  have HV := Lib.hid hv
  have HV2 := Lib.hid hv2
  have HT : Hid ((F.valid && G.valid) = true) := Lib.hid (by rw [hv, hv2]; rfl)
  clear hv hv2
  go_upto_region 3 with (first
    | (with_reducible refine wpList_load_blk rfl 30 (.tmp 8) rfl _ 0 rfl F.vals _ HF.out (by rw [List.drop_zero, List.take_length]) Try.underlying30 rfl (by rw [HO.out.len]; kernel_rfl) ?_)
    | (go_at_call 58; (with_reducible refine (validField_any F HO.out _).mono ?_); rintro e w1 ⟨rfl, hb⟩; rw [HV.out]; have HB := Lib.hid hb; clear hb; have HG1 := Lib.hid (HG.out.below' HB.out); have HF1 := Lib.hid (HF.out.below' HB.out))
    | (with_reducible refine wpList_guard rfl (wpList_load_blk rfl 30 (.tmp 14) rfl _ 0 rfl G.vals _ HG1.out (by rw [List.drop_zero, List.take_length]) Try.underlying30 rfl (by rw [HP.out.len]; kernel_rfl) ?_))
    | (go_at_call 58; (with_reducible refine (validField_any G HP.out _).mono ?_); rintro e w2 ⟨rfl, hb⟩; rw [HV2.out]; have HB2 := Lib.hid (HB.out.trans (hb.mono HB.out.size)); have HG2 := Lib.hid (HG1.out.below' hb); have HF2 := Lib.hid (HF1.out.below' hb); clear hb))
  clear HV HV2
  have hc0 := HF2.out.c0
  have hc1 := HF2.out.c1
  have hd0 := HG2.out.c0
  have hd1 := HG2.out.c1
  cases b1 : (F.wide != G.wide)
  case true =>
    have HC : Hid (pairCode F G = 4) := Lib.hid (pairCode_st HT.out (by
      have : (F.wide == G.wide) = false := by simpa [bne] using b1
      simp [sameB, this]))
    go_quiet (fail)
    go_wp2
    go_ret
    exact ⟨ret_i64 HC.out.symm, below_drewN HB2.out _⟩
  case false =>
    cases b2 : (F.high != G.high)
    case true =>
      have HC : Hid (pairCode F G = 4) := Lib.hid (pairCode_st HT.out (by
        have : (F.high == G.high) = false := by simpa [bne] using b2
        simp [sameB, this]))
      go_quiet (fail)
      go_wp2
      go_ret
      exact ⟨ret_i64 HC.out.symm, below_drewN HB2.out _⟩
    case false =>
      have HS1 := Lib.hid b1
      have HS2 := Lib.hid b2
      refine wp_region_quiet_lit (by kernel_rfl) (by kernel_rfl) ?_
      repeat (first
        | (with_reducible refine q_load (some 43) rfl rfl 23 (.tmp 42) rfl b 2 rfl (vrow .u8 F.kinds) _ (by rintro _ ⟨n, rfl⟩; exact HF2.out.drewN n) HO.out.kpart Try.underlying23 rfl (by rw [vrow_len, HO.out.kl]; kernel_rfl) ?_)
        | (with_reducible refine q_load (some 47) rfl rfl 23 (.tmp 46) rfl c 2 rfl (vrow .u8 G.kinds) _ (by rintro _ ⟨n, rfl⟩; exact HG2.out.drewN n) HP.out.kpart Try.underlying23 rfl (by rw [vrow_len, HP.out.kl]; kernel_rfl) ?_)
        | (with_reducible refine q_neq_row (some 48) rfl rfl 23 23 (.tmp 43) (.tmp 47) rfl 5 .u8 100 Try.underlying23 Try.underlying5 (size_of_info (by kernel_rfl)) (by kernel_rfl) F.kinds G.kinds HO.out.kl HP.out.kl rfl rfl ?_)
        | quiet_step (fail))
      refine wpQuiet_nil ?_
      rintro w3 ⟨nq, rfl⟩
      cases b3 : (F.kinds == G.kinds)
      case false =>
        have HC : Hid (pairCode F G = 4) := Lib.hid (pairCode_st HT.out (by simp [sameB, b3]))
        clear hc0 hc1 hd0 hd1
        go_wp2
        go_ret
        exact ⟨ret_i64 HC.out.symm, below_drewN HB2.out _⟩
      case true =>
        have HS : Hid (sameB F G = true) := Lib.hid (by
          have e1 : (F.wide == G.wide) = true := by simpa [bne] using HS1.out
          have e2 : (F.high == G.high) = true := by simpa [bne] using HS2.out
          simp [sameB, b3, e1, e2])
        clear hc0 hc1 hd0 hd1
        go_wp2_with (first
          | (with_reducible refine wpList_load_blk rfl 25 (.tmp 52) rfl _ 102 rfl (vrow .i16 G.seeds) _ (HG2.out.drewN _) HP.out.spart Try.underlying25 rfl (by rw [vrow_len, HP.out.sl]; kernel_rfl) ?_))
        go_loopw [54] (fun v wr => ∃ i : Nat, i ≤ 100 ∧ v = .int .i64 i ∧ Hid (∀ j, j < i → decide (G.seed j ≤ F.seed j) = true) ∧ ∃ n, wr = w2.drewN n) (fun v _ => 100 - (intOf v).toNat)
        case atStart => exact ⟨0, by omega, rfl, Lib.hid (fun j hj => by omega), _, rfl⟩
        case round =>
          obtain ⟨i, hi, rfl, HR, n, rfl⟩ := hrel
          by_cases hlt : i < 100
          · have cf := HF2.out.cs HO.out hlt
            have hix : ∀ w, (Instr.index 25 (.agg (vrow .i16 G.seeds).toArray) (.int .i64 i)).run Try.prog w = .ok (.int .i16 (G.seed i)) w := fun w => run_index_row w 25 24 .i16 .i64 100 Try.underlying25 Try.underlying24 (size_of_info (by kernel_rfl)) G.seeds HP.out.sl hlt
            by_cases hg : G.seed i ≤ F.seed i
            · have HD : Hid (decide (G.seed i ≤ F.seed i) = true) := Lib.hid (decide_eq_true hg)
              go_wp2
              go_roundw
              case rel => exact ⟨i + 1, by omega, by go_num, Lib.hid (fun j hj => by
                rcases Nat.lt_or_ge j i with h | h
                · exact HR.out j h
                · have e : j = i := by omega
                  rw [e]; exact HD.out), _, rfl⟩
              case measure => simp [intOf]; omega
            · have HC : Hid (pairCode F G = 4) := Lib.hid (pairCode_st HT.out (by
                have : lessB F G = false := allB_no i hlt (decide_eq_false hg)
                simp [this]))
              go_wp2
              go_ret
              exact ⟨ret_i64 HC.out.symm, below_drewN HB2.out _⟩
          · have HC : Hid (pairCode F G = 0) := Lib.hid (pairCode_ok HT.out (by
              have : lessB F G = true := allB_yes fun j hj => HR.out j (by omega)
              rw [this, HS.out]; rfl))
            go_wp2
            go_ret
            exact ⟨ret_i64 HC.out.symm, below_drewN HB2.out _⟩

end Go.Proofs.Ytlhiaofanejcoaa
