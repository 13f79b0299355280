/- BoundsOfLoss, by the program and by the reference: the same. No condition but that the numbers are within their kinds. -/
import Derived.Test.YtalmlgkedcdkdaaBL
namespace Go.Proofs.Ytalmlgkedcdkdaa
open Go.RowKit Go.Proofs.YtalmlgkedcdkdaaW.PrintWords Go.Proofs.YtalmlgkedcdkdaaW.PrintLast Go.Proofs.YtalmlgkedcdkdaaW.PrintMore
set_option linter.unusedSimpArgs false
set_option linter.unusedVariables false

def loF (F G : Fld) (U : List Int) (n : Nat) : Int := sumN (fun j => if hasN U j = true then lsF F G j else 0) n
def hiF (F G : Fld) (U : List Int) (n : Nat) : Int := sumN (fun j => if hasN U j = true then lsF F G j else F.seed j) n
noncomputable def blRes (F G : Fld) (U : List Int) : Int × Int × Int := if pairCode F G = 0 then (loF F G U 100, hiF F G U 100, 0) else (0, 0, pairCode F G)
/-- The soil cells that are not in a sample. -/
def restS (F : Fld) (U : List Int) (j : Nat) : Bool := (F.has (j : Int) && (F.kind j == 0)) && !soilB F U j
theorem pair_zero {F G : Fld} (h : pairCode F G = 0) : F.Valid ∧ G.Valid ∧ F.wide = G.wide ∧ F.high = G.high ∧ F.kinds = G.kinds := by
  unfold pairCode at h
  split at h
  · rename_i hv
    rw [Bool.and_eq_true] at hv
    split at h
    · rename_i hs
      unfold sameB at hs
      simp only [Bool.and_eq_true, beq_iff_eq] at hs
      exact ⟨Fld.valid_iff.1 hv.1, Fld.valid_iff.1 hv.2, hs.1.1, hs.1.2.1, hs.1.2.2⟩
    · cases h
  · cases h
theorem no_soil {F G : Fld} (h : pairCode F G = 0) {j : Nat} (hj : j < 100) (hn : (F.has (j : Int) && (F.kind j == 0)) = false) : F.seed j = 0 ∧ lsF F G j = 0 := by
  obtain ⟨vF, vG, e1, e2, e3⟩ := pair_zero h
  have hh : G.has (j : Int) = F.has (j : Int) := by unfold Fld.has; rw [e1, e2]
  have hk : G.kind j = F.kind j := by unfold Fld.kind; rw [e3]
  have sF : F.seed j = 0 := by
    cases hx : F.has (j : Int)
    · exact (vF.c j hj).hs hx
    · rw [hx, Bool.true_and] at hn
      exact (vF.c j hj).ks (by simpa using hn)
  have sG : G.seed j = 0 := by
    cases hx : F.has (j : Int)
    · exact (vG.c j hj).hs (by rw [hh]; exact hx)
    · rw [hx, Bool.true_and] at hn
      exact (vG.c j hj).ks (by rw [hk]; simpa using hn)
  refine ⟨sF, ?_⟩
  unfold lsF
  rw [lossList_nth F G hj, sF, sG]
  rfl
theorem smp_lo {F G : Fld} (h : pairCode F G = 0) (U : List Int) : smp F G U = loF F G U 100 := by
  unfold smp loF
  refine sumN_same 100 fun j hj => ?_
  cases hs : (F.has (j : Int) && (F.kind j == 0))
  · have hz := (no_soil h hj hs).2
    rw [hz]
    simp
  · unfold soilB
    rw [hs, Bool.and_true]
theorem most_hi {F G : Fld} (h : pairCode F G = 0) (U : List Int) : smp F G U + sumN (fun j => if restS F U j = true then F.seed j else 0) 100 = hiF F G U 100 := by
  rw [smp_lo h U]
  unfold loF hiF
  rw [sumN_add]
  refine sumN_same 100 fun j hj => ?_
  unfold restS soilB
  cases hs : (F.has (j : Int) && (F.kind j == 0))
  · obtain ⟨h1, h2⟩ := no_soil h hj hs
    rw [h1, h2]
    simp
  · cases hu : hasN U j <;> simp
theorem rest_set (F : Fld) (U : List Int) : setTo (fun j => hasN (setTo (fun j => F.has (j : Int) && (F.kind j == 0)) 100) j && !hasN (setTo (soilB F U) 100) j) 100 = setTo (restS F U) 100 := setTo_same 100 fun j hj => by
  unfold restS
  rw [hasN_setTo _ (by omega), hasN_setTo _ (by omega), decide_eq_true hj, Bool.true_and, Bool.true_and]
def sdF (F : Fld) (k : Nat) : Int := F.seed k
theorem sdF_bd {F : Fld} (hF : F.Ok) (k : Nat) : -32768 ≤ sdF F k ∧ sdF F k ≤ 32768 := by
  have := hF.sb k
  unfold sdF
  omega


set_option maxRecDepth 100000 in
set_option maxHeartbeats 4000000 in
theorem iBounds_any (F G : Fld) (hF : F.Ok) (hG : G.Ok) (U : List Int) (hU : ClOk U) (w : World) :
    Calls Try.prog 8 #[.agg F.vals.toArray, .agg G.vals.toArray, .agg (vrow .u64 U).toArray] w fun e w' => e = .returned (.tuple #[.int .i64 (blRes F G U).1, .int .i64 (blRes F G U).2.1, .int .i64 (blRes F G U).2.2]) ∧ Below w.heap.size w w' := by
  have HO := Lib.hid hF
  have HP := Lib.hid hG
  have HU := Lib.hid hU
  have HUL := Lib.hid hU.len
  have hz := zeroCells
  have hz2 := zeroA16
  clear hF hG hU
  go_enter Try.func8, Try.ntmps8
  go_upto_region 1 with (fail)
  obtain ⟨W, hW⟩ : ∃ W, W = ((w.alloc (.cells F.vals.toArray 32)).alloc (.cells G.vals.toArray 32)).alloc (.cells (vrow .u64 U).toArray 34) := ⟨_, rfl⟩
  have HC := Lib.hid (boxed3 w F.vals G.vals (vrow .u64 U) 32 32 34)
  rw [← hW] at HC ⊢
  clear hW
  by_cases hq : pairCode F G = 0
  · have HQ := Lib.hid hq
    have HR : Hid (blRes F G U = (loF F G U 100, hiF F G U 100, 0)) := Lib.hid (by unfold blRes; rw [if_pos hq])
    have HLO := Lib.hid (smp_lo hq U)
    have HHI := Lib.hid (most_hi hq U)
    have HL := Lib.hid (setTo_len (soilB F U) 100)
    have HRS := Lib.hid (rest_set F U)
    have HLS := Lib.hid (lst_set (restS F U))
    have HSM := Lib.hid (sumL_lst (sdF F) (restS F U) 100)
    have hsb := smp_bd F G U
    clear hq
    go_upto_region 6 with (first
      | (go_at_call 16; refine (lossCode_any F G HO.out HP.out _ _ _ (HC.out.blk (w.heap.size, F.vals, 32) (by simp)) (HC.out.blk (w.heap.size + 1, G.vals, 32) (by simp))).mono ?_; rintro e w2 ⟨rfl, hb⟩; rw [HQ.out]; have HC1 := Lib.hid (HC.out.step hb); clear hb)
      | (with_reducible refine wpList_load_blk rfl 34 (.tmp 5) rfl _ 0 rfl (vrow .u64 U) _ (HC1.out.blk (w.heap.size + 1 + 1, vrow .u64 U, 34) (by simp)) (by rw [List.drop_zero, List.take_length]) Try.underlying34 rfl (by rw [vrow_len, HUL.out]; kernel_rfl) ?_)
      | (go_at_call 17; refine (sampled_any F G HO.out HP.out HU.out _ _ _ (HC1.out.blk (w.heap.size, F.vals, 32) (by simp)) (HC1.out.blk (w.heap.size + 1, G.vals, 32) (by simp))).mono ?_; rintro e w3 ⟨rfl, hb⟩; have HC3 := Lib.hid (HC1.out.step hb); clear hb)
      | ((with_reducible refine gate_op (.store 34 (.tmp 11) (.tmp 23)) rfl ?_); refine wpList_store_all rfl 34 (.tmp 11) (.tmp 23) rfl _ (vrow .u64 (setTo (soilB F U) 100)) (by kernel_rfl) (by kernel_rfl) (Blk.new' _ (zrow .u64 2) 34) (by rw [vrow_len, zrow_len, HL.out]) (by rw [vrow_len, HL.out]; kernel_rfl) (vrow_one _ _) ?_; refine wpl_name (fun w' => Below w3.heap.size w3 w' ∧ Blk w' w3.heap.size (vrow .u64 (setTo (soilB F U) 100)) 34) ⟨below_setRow ((Below.refl _ _).alloc (Nat.le_refl _) _) (Nat.le_refl _) _, (Blk.new' _ _ _).row _⟩ ?_; rintro w4 ⟨hb, hK⟩; have HA4 := Lib.hid hK; have HC4 := Lib.hid (HC3.out.step hb); clear hb hK))
    generalize smp F G U = X at *
    refine la_start (S := fun w' => Below w4.heap.size w4 w') (n := 6) #[false, false, false, false, false, false] (by kernel_rfl) (by kernel_rfl) (below_drewN (Below.refl _ _) 1) (fun _ _ _ _ hd h => ⟨hd.symm.trans h.1, h.2⟩) (fun hPB => ?_)
    have HB5 : Hid (Below w4.heap.size w4 { w4 with drawn := w4.drawn + 1 }) := Lib.hid (below_drewN (Below.refl _ _) 1)
    refine la_load (i := 1) #[false, true, false, false, false, false] (some 26) rfl rfl (by kernel_rfl) hPB rfl 34 (.tmp 11) rfl w3.heap.size 0 (by kernel_rfl) (vrow .u64 (setTo (soilB F U) 100)) _ (fun w1 h1 => HA4.out.below h1 HA4.out.lt) (by rw [List.drop_zero, List.take_length]) Try.underlying34 rfl (by rw [vrow_len, HL.out]; kernel_rfl) HB5.out ?_
    simp only [Act.put, List.setIfInBounds_toArray, List.set_cons_zero, List.set_cons_succ]
    refine la_fmove (i := 5) #[false, true, false, false, false, true] (some 30) rfl rfl (by kernel_rfl) hPB rfl (.const (.int .i64 0)) rfl (.int .i64 0) (by kernel_rfl) ?_
    simp only [Act.put, List.setIfInBounds_toArray, List.set_cons_zero, List.set_cons_succ]
    refine la_call (i := 0) #[true, true, false, false, false, true] (some 25) rfl rfl (by kernel_rfl) (by kernel_rfl) Try.func20 (by kernel_rfl) rfl #[.pointer (some ⟨w.heap.size, 0, none⟩), .int .i64 0] rfl (by simp only [List.map_toArray, List.map_cons, List.map_nil]; kernel_rfl) ?_
    refine (ofKind_any F HO.out 0 _ _ ((HC4.out.step HB5.out).blk (w.heap.size, F.vals, 32) (by simp))).mono ?_
    rintro e w6 ⟨rfl, hb⟩
    have HB6 := Lib.hid (HB5.out.trans (hb.mono HB5.out.size))
    clear hb
    refine ⟨_, rfl, HB6.out, ?_⟩
    simp only [Act.put, List.setIfInBounds_toArray, List.set_cons_zero, List.set_cons_succ]
    refine la_call (i := 2) #[true, true, true, false, false, true] (some 27) rfl rfl (by kernel_rfl) (by kernel_rfl) Try.func19 (by kernel_rfl) rfl #[.agg (vrow .u64 (setTo (fun j => F.has (j : Int) && (F.kind j == 0)) 100)).toArray, .agg (vrow .u64 (setTo (soilB F U) 100)).toArray] rfl (by simp only [List.map_toArray, List.map_cons, List.map_nil]; kernel_rfl) ?_
    refine (withoutOf_any (setTo_ok _) (setTo_ok _) _).mono ?_
    rw [HRS.out]
    rintro e w7 ⟨rfl, hb⟩
    have HB7 := Lib.hid (HB6.out.trans (hb.mono HB6.out.size))
    clear hb
    refine ⟨_, rfl, HB7.out, ?_⟩
    simp only [Act.put, List.setIfInBounds_toArray, List.set_cons_zero, List.set_cons_succ]
    refine la_call (i := 3) #[true, true, true, true, false, true] (some 28) rfl rfl (by kernel_rfl) (by kernel_rfl) Try.func18 (by kernel_rfl) rfl #[.agg (vrow .u64 (setTo (restS F U) 100)).toArray] rfl (by simp only [List.map_toArray, List.map_cons, List.map_nil]; kernel_rfl) ?_
    refine (listOf_any (setTo_ok _) _).mono ?_
    rw [HLS.out]
    rintro e w8 ⟨v8, rfl, hm, hb⟩
    obtain ⟨A2, c2, hv⟩ := Kd.R_slice hm
    subst hv
    have HM := Lib.hid (Kd.R_reads' hm).2.2
    have HB8 := Lib.hid (HB7.out.trans (hb.mono HB7.out.size))
    clear hb hm
    refine ⟨_, rfl, HB8.out, ?_⟩
    simp only [Act.put, List.setIfInBounds_toArray, List.set_cons_zero, List.set_cons_succ]
    refine la_auto (i := 4) #[true, true, true, true, true, true] rfl (by kernel_rfl) hPB (fun K hK => ?_)
    go_simp
    refine hK _ ?_
    clear hK K
    refine la_done (by kernel_rfl) ?_
    clear hPB
    have HC8 := Lib.hid (HC4.out.step HB8.out)
    have hl100 := Gap.lst_len (restS F U) 100
    go_wp2
    go_loopw [12, 30] (fun u v wr => ∃ i : Nat, i ≤ (Gap.lst (restS F U) 100).length ∧ v = .int .i64 i ∧ u = .int .i64 (X + sumL (sdF F) (Gap.lst (restS F U) 100) i) ∧ ∃ m, wr = w8.drewN m) (fun _ v _ => (Gap.lst (restS F U) 100).length - (intOf v).toNat)
    case atStart => exact ⟨0, by omega, rfl, by simp [sumL], 0, rfl⟩
    case round =>
      obtain ⟨i, hi, rfl, rfl, m, rfl⟩ := hrel
      have hb8 : Below w8.heap.size w8 (w8.drewN m) := below_drewN (Below.refl _ _) m
      by_cases hlt : i < (Gap.lst (restS F U) 100).length
      · obtain ⟨k, hk, hk2, _⟩ := lst_in (restS F U) 100 hlt
        obtain ⟨ad, hA2, hx⟩ := Kd.at_int (Kd.C_below HM.out hb8) (i : Int) (by omega) (by omega)
        subst hA2
        rw [Int.toNat_natCast, hk] at hx
        have cl : (w8.drewN m).cell? ⟨w.heap.size, 102 + k, none⟩ = some (.int .i16 (sdF F k)) := IsF.cs ((HC8.out.step hb8).blk (w.heap.size, F.vals, 32) (by simp)) HO.out hk2
        have HN : Hid (sumL (sdF F) (Gap.lst (restS F U) 100) (i + 1) = sumL (sdF F) (Gap.lst (restS F U) 100) i + sdF F k) := Lib.hid (by simp only [sumL]; rw [hk, Int.toNat_natCast])
        obtain ⟨b0, b1⟩ := sumL_bd (by omega) (sdF_bd HO.out) (Gap.lst (restS F U) 100) i
        obtain ⟨l0, l1⟩ := sdF_bd HO.out k
        generalize sumL (sdF F) (Gap.lst (restS F U) 100) i = x at *
        generalize sdF F k = z at *
        have ez : IntKind.i64.wrap z = z := by rw [IntKind.wrap_i64]; omega
        have ea : wrap64 (X + x + z) = X + x + z := by unfold wrap64; omega
        clear hk
        go_wp2
        go_roundw
        case rel => exact ⟨i + 1, by omega, by go_num, by rw [HN.out, ← Int.add_assoc], m, rfl⟩
        case measure => simp only [intOf]; omega
      · obtain rfl : i = (Gap.lst (restS F U) 100).length := by omega
        have HR2 : Hid (X + sumL (sdF F) (Gap.lst (restS F U) 100) (Gap.lst (restS F U) 100).length = hiF F G U 100) := Lib.hid (by rw [HSM.out]; exact HHI.out)
        rw [HR2.out]
        go_wp2
        go_ret3
        rw [HR.out, ← HLO.out]
        exact ⟨rfl, below_drewN HC8.out.below _⟩
  · have HR : Hid (blRes F G U = (0, 0, pairCode F G)) := Lib.hid (by unfold blRes; rw [if_neg hq])
    have hq' : (pairCode F G != 0) = true := by simpa using hq
    go_wp2_with (first
      | (go_at_call 16; refine (lossCode_any F G HO.out HP.out _ _ _ (HC.out.blk (w.heap.size, F.vals, 32) (by simp)) (HC.out.blk (w.heap.size + 1, G.vals, 32) (by simp))).mono ?_; rintro e w2 ⟨rfl, hb⟩; have HC1 := Lib.hid (HC.out.step hb); clear hb))
    go_ret3
    rw [HR.out]
    exact ⟨rfl, HC1.out.below⟩


theorem lo_bd (F G : Fld) (U : List Int) (n : Nat) : -(32768 * (n : Int)) ≤ loF F G U n ∧ loF F G U n ≤ 32768 * (n : Int) := sumN_bd (by omega) (fun i => by
  show _ ≤ (if hasN U i = true then lsF F G i else 0) ∧ (if hasN U i = true then lsF F G i else 0) ≤ _
  have := lsF_bd F G i
  split <;> omega) n
theorem hi_bd {F : Fld} (hF : F.Ok) (G : Fld) (U : List Int) (n : Nat) : -(32768 * (n : Int)) ≤ hiF F G U n ∧ hiF F G U n ≤ 32768 * (n : Int) := sumN_bd (by omega) (fun i => by
  show _ ≤ (if hasN U i = true then lsF F G i else F.seed i) ∧ (if hasN U i = true then lsF F G i else F.seed i) ≤ _
  have := lsF_bd F G i
  have := hF.sb i
  split <;> omega) n
set_option maxRecDepth 100000 in
set_option maxHeartbeats 4000000 in
theorem sBounds_any (F G : Fld) (hF : F.Ok) (hG : G.Ok) (U : List Int) (hU : ClOk U) (w : World) :
    Calls Try.prog 5 #[.agg F.vals.toArray, .agg G.vals.toArray, .agg (vrow .u64 U).toArray] w fun e w' => e = .returned (.tuple #[.int .i64 (blRes F G U).1, .int .i64 (blRes F G U).2.1, .int .i64 (blRes F G U).2.2]) ∧ Below w.heap.size w w' := by
  have HO := Lib.hid hF
  have HP := Lib.hid hG
  have HU := Lib.hid hU
  have HUL := Lib.hid hU.len
  have hz := zeroCells
  have hz2 := zeroA16
  clear hF hG hU
  go_enter Try.func5, Try.ntmps5
  go_upto_region 1 with (fail)
  obtain ⟨W, hW⟩ : ∃ W, W = ((w.alloc (.cells F.vals.toArray 32)).alloc (.cells G.vals.toArray 32)).alloc (.cells (vrow .u64 U).toArray 34) := ⟨_, rfl⟩
  have HC := Lib.hid (boxed3 w F.vals G.vals (vrow .u64 U) 32 32 34)
  rw [← hW] at HC ⊢
  clear hW
  by_cases hq : pairCode F G = 0
  · have HQ := Lib.hid hq
    have HR : Hid (blRes F G U = (loF F G U 100, hiF F G U 100, 0)) := Lib.hid (by unfold blRes; rw [if_pos hq])
    have HLL := Lib.hid (lossList_len F G)
    clear hq
    go_wp2_with (first
      | (go_at_call 11; refine (l06Pair_any F G HO.out HP.out _ _ _ (HC.out.blk (w.heap.size, F.vals, 32) (by simp)) (HC.out.blk (w.heap.size + 1, G.vals, 32) (by simp))).mono ?_; rintro e w2 ⟨rfl, hb⟩; rw [HQ.out]; have HC1 := Lib.hid (HC.out.step hb); clear hb)
      | (go_at_call 12; refine (l06Loss_any F G HO.out HP.out _ _ _ (HC1.out.blk (w.heap.size, F.vals, 32) (by simp)) (HC1.out.blk (w.heap.size + 1, G.vals, 32) (by simp))).mono ?_; rintro e w3 ⟨rfl, hb⟩; have HC3 := Lib.hid (HC1.out.step hb); clear hb)
      | ((with_reducible refine gate_op (.store 25 (.tmp 10) (.tmp 18)) rfl ?_); refine wpList_store_all rfl 25 (.tmp 10) (.tmp 18) rfl _ (vrow .i16 (lossList F G)) (by kernel_rfl) (by kernel_rfl) (Blk.new' _ (zrow .i16 100) 25) (by rw [vrow_len, zrow_len, HLL.out]) (by rw [vrow_len, HLL.out]; kernel_rfl) (vrow_one _ _) ?_; refine wpl_name (fun w' => Below w3.heap.size w3 w' ∧ Blk w' w3.heap.size (vrow .i16 (lossList F G)) 25) ⟨below_setRow ((Below.refl _ _).alloc (Nat.le_refl _) _) (Nat.le_refl _) _, (Blk.new' _ _ _).row _⟩ ?_; rintro w4 ⟨hb, hK⟩; have HA4 := Lib.hid hK; have HC4 := Lib.hid (HC3.out.step hb); clear hb hK))
    go_loopw [11, 12, 13] (fun u t v wr => ∃ i : Nat, i ≤ 100 ∧ v = .int .i64 i ∧ u = .int .i64 (loF F G U i) ∧ t = .int .i64 (hiF F G U i) ∧ Hid (Below w4.heap.size w4 wr)) (fun _ _ v _ => 100 - (intOf v).toNat)
    case atStart => exact ⟨0, by omega, rfl, rfl, rfl, Lib.hid (Below.refl _ _)⟩
    case round =>
      obtain ⟨i, hi, rfl, rfl, rfl, HB⟩ := hrel
      by_cases hlt : i < 100
      · obtain ⟨a0, a1⟩ := lo_bd F G U i
        obtain ⟨b0, b1⟩ := hi_bd HO.out G U i
        obtain ⟨l0, l1⟩ := lsF_bd F G i
        obtain ⟨s0, s1⟩ := sdF_bd HO.out i
        cases hh : hasN U i
        · have HH := Lib.hid hh
          have HN1 : Hid (loF F G U (i + 1) = loF F G U i) := Lib.hid (by unfold loF; simp only [sumN]; rw [hh]; simp)
          have HN2 : Hid (hiF F G U (i + 1) = hiF F G U i + sdF F i) := Lib.hid (by unfold hiF sdF; simp only [sumN]; rw [hh]; simp)
          clear hh
          generalize loF F G U i = x at *
          generalize hiF F G U i = y at *
          generalize hls : lsF F G i = z at *
          generalize hsd : sdF F i = t at *
          have ez : IntKind.i64.wrap t = t := by rw [IntKind.wrap_i64]; omega
          have ea : wrap64 (y + t) = y + t := by unfold wrap64; omega
          go_wp2_with ((go_at_call 13; refine (l01Has_any HU.out hlt _ _ ((HC4.out.step HB.out).blk (w.heap.size + 1 + 1, vrow .u64 U, 34) (by simp))).mono ?_; rintro e w5 ⟨rfl, hb⟩; rw [HH.out]; have HB5 := Lib.hid (HB.out.trans (hb.mono HB.out.size)); have cl5 : w5.cell? ⟨w3.heap.size, i, none⟩ = some (.int .i16 z) := (HA4.out.below HB5.out HA4.out.lt).cell (vrow_get (k := .i16) (zs := lossList F G) (i := i) (by rw [HLL.out]; exact hlt)) |>.trans (by show some (Value.int .i16 (lsF F G i)) = _; rw [hls]); have cs5 : w5.cell? ⟨w.heap.size, 102 + i, none⟩ = some (.int .i16 t) := IsF.cs ((HC4.out.step HB5.out).blk (w.heap.size, F.vals, 32) (by simp)) HO.out hlt |>.trans (by show some (Value.int .i16 (sdF F i)) = _; rw [hsd]); clear hb))
          go_roundw
          case rel => exact ⟨i + 1, by omega, by go_num, by rw [HN1.out], by rw [HN2.out], HB5⟩
          case measure => simp only [intOf]; omega
        · have HH := Lib.hid hh
          have HN1 : Hid (loF F G U (i + 1) = loF F G U i + lsF F G i) := Lib.hid (by unfold loF; simp only [sumN]; rw [hh]; simp)
          have HN2 : Hid (hiF F G U (i + 1) = hiF F G U i + lsF F G i) := Lib.hid (by unfold hiF; simp only [sumN]; rw [hh]; simp)
          clear hh
          generalize loF F G U i = x at *
          generalize hiF F G U i = y at *
          generalize hls : lsF F G i = z at *
          generalize hsd : sdF F i = t at *
          have ez : IntKind.i64.wrap z = z := by rw [IntKind.wrap_i64]; omega
          have ea : wrap64 (x + z) = x + z := by unfold wrap64; omega
          have eb : wrap64 (y + z) = y + z := by unfold wrap64; omega
          go_wp2_with ((go_at_call 13; refine (l01Has_any HU.out hlt _ _ ((HC4.out.step HB.out).blk (w.heap.size + 1 + 1, vrow .u64 U, 34) (by simp))).mono ?_; rintro e w5 ⟨rfl, hb⟩; rw [HH.out]; have HB5 := Lib.hid (HB.out.trans (hb.mono HB.out.size)); have cl5 : w5.cell? ⟨w3.heap.size, i, none⟩ = some (.int .i16 z) := (HA4.out.below HB5.out HA4.out.lt).cell (vrow_get (k := .i16) (zs := lossList F G) (i := i) (by rw [HLL.out]; exact hlt)) |>.trans (by show some (Value.int .i16 (lsF F G i)) = _; rw [hls]); have cs5 : w5.cell? ⟨w.heap.size, 102 + i, none⟩ = some (.int .i16 t) := IsF.cs ((HC4.out.step HB5.out).blk (w.heap.size, F.vals, 32) (by simp)) HO.out hlt |>.trans (by show some (Value.int .i16 (sdF F i)) = _; rw [hsd]); clear hb))
          go_roundw
          case rel => exact ⟨i + 1, by omega, by go_num, by rw [HN1.out], by rw [HN2.out], HB5⟩
          case measure => simp only [intOf]; omega
      · obtain rfl : i = 100 := by omega
        go_wp2
        go_ret3
        rw [HR.out]
        exact ⟨rfl, (HC4.out.step HB.out).below⟩
  · have HR : Hid (blRes F G U = (0, 0, pairCode F G)) := Lib.hid (by unfold blRes; rw [if_neg hq])
    have hq' : (pairCode F G != 0) = true := by simpa using hq
    go_wp2_with (first
      | (go_at_call 11; refine (l06Pair_any F G HO.out HP.out _ _ _ (HC.out.blk (w.heap.size, F.vals, 32) (by simp)) (HC.out.blk (w.heap.size + 1, G.vals, 32) (by simp))).mono ?_; rintro e w2 ⟨rfl, hb⟩; have HC1 := Lib.hid (HC.out.step hb); clear hb))
    go_ret3
    rw [HR.out]
    exact ⟨rfl, HC1.out.below⟩

end Go.Proofs.Ytalmlgkedcdkdaa
