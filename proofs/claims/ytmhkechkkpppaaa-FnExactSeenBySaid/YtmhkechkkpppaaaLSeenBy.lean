/- The law FnExactSeenBy, walked: the program and the reference answer the same. No condition. -/
import Derived.Test.YtmhkechkkpppaaaGB
import Derived.Test.YtmhkechkkpppaaaGC
import Derived.Test.YtmhkechkkpppaaaB9
import Derived.Test.YtmhkechkkpppaaaMkBeat
namespace Go.Proofs.Ytmhkechkkpppaaa.LSeenBy
open Go.RowKit Go.Proofs.YtmhkechkkpppaaaW.PrintWords Go.Proofs.YtmhkechkkpppaaaW.PrintLast Go.Proofs.Ytmhkechkkpppaaa.PAll
set_option linter.unusedSimpArgs false
set_option linter.unusedVariables false

set_option maxRecDepth 100000 in
set_option maxHeartbeats 8000000 in
theorem walk (w : World) (cs0 : List Value) (i0 : R.Ints fldKinds cs0) (A1 : Option Addr) (c1 : Nat) (b : List Int) (hc1 : b.length ≤ c1) (hm1 : b.length ≤ maxLen) (hw1 : ∀ x ∈ b, (Lit.int .i16 x).wf = true) (hC1 : Kd.C (Kd.int .i16) w A1 b.length b) (s : Int) (ws : (Lit.int .i64 s).wf = true) :
    Calls Try.prog 6 #[.agg cs0.toArray, .slice A1 b.length c1, .int .i64 s] w fun e w' => e = .returned (.bool true) ∧ Below w.heap.size w w' := by
  obtain ⟨F, hF', rfl⟩ := fld_of_ints i0
  have hF := Lib.hid hF'
  clear i0 hF'
  by_cases hlen1 : b.length ≤ 1048576
  case neg =>
    have hl1 : (1048576 : Int) < (b.length : Int) := by omega
    have hmm := hm1
    unfold maxLen at hmm
    clear hC1 hw1 hm1
    go_enter Try.func6, Try.ntmps6
    go_wp2
    go_ret
    exact ⟨rfl, (boxed1 w F.vals 27).below⟩
  have hbo' : BtOk b := btOk_of hw1
  have hbo := Lib.hid hbo'
  clear hbo'
  obtain ⟨V, hV⟩ : ∃ V, V = sbRes F b s := ⟨_, rfl⟩
  have HSp' := fun A n w1 hA hlc => sSeenBy_any F hF.out b hbo.out s A n w1 hA hlc
  have HIm' := fun A n w1 hA hlc => iSeenBy_any F hF.out b hbo.out s A n w1 hA hlc
  have hVl' := sbRes_len F b s
  rw [← hV] at HSp' HIm' hVl'
  clear hV
  have HSp := Lib.hid HSp'
  clear HSp'
  have HIm := Lib.hid HIm'
  clear HIm'
  have hVl := Lib.hid hVl'
  clear hVl'
  have hV0 : (V.2 != V.2) = false := by simp
  have HCP1 := Lib.hid hC1
  have HCc1 := Lib.hid hc1
  have hmm1p := hm1
  unfold maxLen at hmm1p
  clear hC1 hc1 hm1
  have HWf1 := Lib.hid hw1
  clear hw1
  have hz_zeroCells := zeroCells
  go_enter Try.func6, Try.ntmps6
  go_upto_region 1 with (fail)
  obtain ⟨W, hW⟩ : ∃ W, W = w.alloc (.cells F.vals.toArray 27) := ⟨_, rfl⟩
  have HC := Lib.hid (boxed1 w F.vals 27)
  rw [← hW] at HC ⊢
  clear hW
  have HB0 := Lib.hid (Below.refl W.heap.size W)
  go_wp2_with (first
    | ((with_reducible refine gate_dst (N := 16) rfl ?_); refine wpList_load_blk rfl 27 (.tmp 3) rfl (w.heap.size) 0 (by kernel_rfl) F.vals _ ((HC.out.step HB0.out).blk (w.heap.size, F.vals, 27) (List.Mem.head _)) (by rw [List.drop_zero, List.take_length]) Try.underlying27 rfl (by rw [hF.out.len]; kernel_rfl) ?_)
    | ((with_reducible refine gate_dst (N := 17) rfl ?_); refine goesL_ (some 17) rfl rfl Try.func14 (by kernel_rfl) rfl #[.agg F.vals.toArray] rfl (by simp only [List.map_toArray, List.map_cons, List.map_nil]; kernel_rfl) ?_; refine (toField_any F hF.out _).mono ?_; rintro e w1 ⟨rfl, hb⟩; refine ⟨_, rfl, ?_⟩; have HB2 := Lib.hid (HB0.out.trans (hb.mono HB0.out.size)); clear HB0; clear hb)
    | ((with_reducible refine gate_dst (N := 19) rfl ?_); refine goesL_ (some 19) rfl rfl Try.func15 (by kernel_rfl) rfl #[.slice A1 b.length c1] rfl (by simp only [List.map_toArray, List.map_cons, List.map_nil]; kernel_rfl) ?_; refine (toBeat_any (w := _) b  (Kd.C_below HCP1.out (HC.out.step HB2.out).below) hlen1 HCc1.out).mono ?_; rintro e w3 ⟨vv, rfl, hm, hb⟩; refine ⟨_, rfl, ?_⟩; obtain ⟨AX1, cX1, hv⟩ := Kd.R_slice hm; subst hv; have H4 := Lib.hid (ow_new (d := (Kd.int .i16)) rfl hm HB2.out); have HB5 := Lib.hid (HB2.out.trans (hb.mono HB2.out.size)); clear HB2; clear hm hb)
    | ((with_reducible refine gate_dst (N := 21) rfl ?_); refine goesL_ (some 21) rfl rfl Try.func25 (by kernel_rfl) rfl #[.agg F.vals.toArray, .slice AX1 b.length cX1, .int .i64 s] rfl (by simp only [List.map_toArray, List.map_cons, List.map_nil]; kernel_rfl) ?_; refine (HSp.out _ _ _ (ow_C H4.out) (ow_cap H4.out)).mono ?_; rintro e w6 ⟨rfl, hb⟩; refine ⟨_, rfl, ?_⟩; have HB7 := Lib.hid (HB5.out.trans (hb.mono HB5.out.size)); clear HB5; have H8 := Lib.hid (ow_below H4.out hb); clear H4; clear hb)
    | ((with_reducible refine gate_op (.store 40 (.tmp 7) (.tmp 22)) rfl ?_); refine wpList_store_all rfl 40 (.tmp 7) (.tmp 22) rfl _ (vrow .u64 V.1) (by kernel_rfl) (by kernel_rfl) (Blk.new' _ (zrow .u64 2) 40) (by rw [vrow_len, zrow_len, hVl.out]) (by rw [vrow_len, hVl.out]; kernel_rfl) (vrow_one _ _) ?_; refine wpl_name (fun w' => Below w6.heap.size w6 w' ∧ Blk w' w6.heap.size (vrow .u64 V.1) 40) ⟨below_setRow ((Below.refl _ _).alloc (Nat.le_refl _) _) (Nat.le_refl _) _, (Blk.new' _ (zrow .u64 2) 40).row _⟩ ?_; rintro wZ9 ⟨hb, hK⟩; have HK12 := Lib.hid hK; have HB10 := Lib.hid (HB7.out.trans (hb.mono HB7.out.size)); clear HB7; have H11 := Lib.hid (ow_below H8.out hb); clear H8; clear hb hK)
    | ((with_reducible refine gate_dst (N := 25) rfl ?_); refine goesL_ (some 25) rfl rfl Try.func15 (by kernel_rfl) rfl #[.slice A1 b.length c1] rfl (by simp only [List.map_toArray, List.map_cons, List.map_nil]; kernel_rfl) ?_; refine (toBeat_any (w := _) b  (Kd.C_below HCP1.out (HC.out.step HB10.out).below) hlen1 HCc1.out).mono ?_; rintro e w13 ⟨vv, rfl, hm, hb⟩; refine ⟨_, rfl, ?_⟩; obtain ⟨AX3, cX3, hv⟩ := Kd.R_slice hm; subst hv; have H14 := Lib.hid (ow_new (d := (Kd.int .i16)) rfl hm HB10.out); have HA15 := Lib.hid (apart_new hm H11.out).1; have HA16 := Lib.hid (apart_new hm H11.out).2; have HB17 := Lib.hid (HB10.out.trans (hb.mono HB10.out.size)); clear HB10; have H18 := Lib.hid (ow_below H11.out hb); clear H11; have HK19 := Lib.hid (HK12.out.below hb HK12.out.lt); clear HK12; clear hm hb)
    | ((with_reducible refine gate_dst (N := 27) rfl ?_); refine wpList_load_blk rfl 27 (.tmp 3) rfl (w.heap.size) 0 (by kernel_rfl) F.vals _ ((HC.out.step HB17.out).blk (w.heap.size, F.vals, 27) (List.Mem.head _)) (by rw [List.drop_zero, List.take_length]) Try.underlying27 rfl (by rw [hF.out.len]; kernel_rfl) ?_)
    | ((with_reducible refine gate_dst (N := 28) rfl ?_); refine goesL_ (some 28) rfl rfl Try.func14 (by kernel_rfl) rfl #[.agg F.vals.toArray] rfl (by simp only [List.map_toArray, List.map_cons, List.map_nil]; kernel_rfl) ?_; refine (toField_any F hF.out _).mono ?_; rintro e w20 ⟨rfl, hb⟩; refine ⟨_, rfl, ?_⟩; have HB21 := Lib.hid (HB17.out.trans (hb.mono HB17.out.size)); clear HB17; have H22 := Lib.hid (ow_below H18.out hb); clear H18; have H23 := Lib.hid (ow_below H14.out hb); clear H14; have HK24 := Lib.hid (HK19.out.below hb HK19.out.lt); clear HK19; clear hb)
    | ((with_reducible refine gate_dst (N := 31) rfl ?_); refine goesL_ (some 31) rfl rfl Try.func26 (by kernel_rfl) rfl #[.agg F.vals.toArray, .slice AX3 b.length cX3, .int .i64 s] rfl (by simp only [List.map_toArray, List.map_cons, List.map_nil]; kernel_rfl) ?_; refine (HIm.out _ _ _ (ow_C H23.out) (ow_cap H23.out)).mono ?_; rintro e w25 ⟨rfl, hb⟩; refine ⟨_, rfl, ?_⟩; have HB26 := Lib.hid (HB21.out.trans (hb.mono HB21.out.size)); clear HB21; have H27 := Lib.hid (ow_below H22.out hb); clear H22; have H28 := Lib.hid (ow_below H23.out hb); clear H23; have HK29 := Lib.hid (HK24.out.below hb HK24.out.lt); clear HK24; clear hb)
    | ((with_reducible refine gate_op (.store 40 (.tmp 10) (.tmp 32)) rfl ?_); refine wpList_store_all rfl 40 (.tmp 10) (.tmp 32) rfl _ (vrow .u64 V.1) (by kernel_rfl) (by kernel_rfl) (Blk.new' _ (zrow .u64 2) 40) (by rw [vrow_len, zrow_len, hVl.out]) (by rw [vrow_len, hVl.out]; kernel_rfl) (vrow_one _ _) ?_; refine wpl_name (fun w' => Below w25.heap.size w25 w' ∧ Blk w' w25.heap.size (vrow .u64 V.1) 40) ⟨below_setRow ((Below.refl _ _).alloc (Nat.le_refl _) _) (Nat.le_refl _) _, (Blk.new' _ (zrow .u64 2) 40).row _⟩ ?_; rintro wZ30 ⟨hb, hK⟩; have HK35 := Lib.hid hK; have HB31 := Lib.hid (HB26.out.trans (hb.mono HB26.out.size)); clear HB26; have H32 := Lib.hid (ow_below H27.out hb); clear H27; have H33 := Lib.hid (ow_below H28.out hb); clear H28; have HK34 := Lib.hid (HK29.out.below hb HK29.out.lt); clear HK29; clear hb hK)
    | ((with_reducible refine gate_dst (N := 34) rfl ?_); refine wpList_load_blk rfl 40 (.tmp 10) rfl w25.heap.size 0 (by kernel_rfl) (vrow .u64 V.1) _ (HK35.out) (by rw [List.drop_zero, List.take_length]) Try.underlying40 rfl (by rw [vrow_len, hVl.out]; kernel_rfl) ?_)
    | ((with_reducible refine gate_dst (N := 35) rfl ?_); refine wpList_load_blk rfl 40 (.tmp 7) rfl w6.heap.size 0 (by kernel_rfl) (vrow .u64 V.1) _ (HK34.out) (by rw [List.drop_zero, List.take_length]) Try.underlying40 rfl (by rw [vrow_len, hVl.out]; kernel_rfl) ?_)
    | ((with_reducible refine gate_dst (N := 36) rfl ?_); refine goesL_ (some 36) rfl rfl Try.func22 (by kernel_rfl) rfl #[.agg (vrow .u64 V.1).toArray, .agg (vrow .u64 V.1).toArray] rfl (by simp only [List.map_toArray, List.map_cons, List.map_nil]; kernel_rfl) ?_; refine (eqCells_any _ _ hVl.out hVl.out rfl _).mono ?_; rintro e w36 ⟨rfl, hb⟩; refine ⟨_, rfl, ?_⟩; have HB37 := Lib.hid (HB31.out.trans (hb.mono HB31.out.size)); clear HB31; have H38 := Lib.hid (ow_below H32.out hb); clear H32; have H39 := Lib.hid (ow_below H33.out hb); clear H33; have HK40 := Lib.hid (HK34.out.below hb HK34.out.lt); clear HK34; have HK41 := Lib.hid (HK35.out.below hb HK35.out.lt); clear HK35; clear hb)
    | ((with_reducible refine gate_dst (N := 45) rfl ?_); refine goesL_ (some 45) rfl rfl Try.func15 (by kernel_rfl) rfl #[.slice A1 b.length c1] rfl (by simp only [List.map_toArray, List.map_cons, List.map_nil]; kernel_rfl) ?_; refine (toBeat_any (w := _) b  (Kd.C_below HCP1.out (HC.out.step HB37.out).below) hlen1 HCc1.out).mono ?_; rintro e w42 ⟨vv, rfl, hm, hb⟩; refine ⟨_, rfl, ?_⟩; obtain ⟨AX5, cX5, hv⟩ := Kd.R_slice hm; subst hv; have H43 := Lib.hid (ow_new (d := (Kd.int .i16)) rfl hm HB37.out); have HA44 := Lib.hid (apart_new hm H38.out).1; have HA45 := Lib.hid (apart_new hm H38.out).2; have HA46 := Lib.hid (apart_new hm H39.out).1; have HA47 := Lib.hid (apart_new hm H39.out).2; have HB48 := Lib.hid (HB37.out.trans (hb.mono HB37.out.size)); clear HB37; have H49 := Lib.hid (ow_below H38.out hb); clear H38; have H50 := Lib.hid (ow_below H39.out hb); clear H39; have HK51 := Lib.hid (HK40.out.below hb HK40.out.lt); clear HK40; have HK52 := Lib.hid (HK41.out.below hb HK41.out.lt); clear HK41; clear hm hb)
    | ((with_reducible refine gate_dst (N := 46) rfl ?_); refine goesL_ (some 46) rfl rfl Try.func17 (by kernel_rfl) rfl #[.slice AX3 b.length cX3, .slice AX5 b.length cX5] rfl (by simp only [List.map_toArray, List.map_cons, List.map_nil]; kernel_rfl) ?_; refine (eqO_Beat H50.out H43.out hlen1).mono ?_; rintro e w53 ⟨rfl, hb⟩; refine ⟨_, rfl, ?_⟩; have HB54 := Lib.hid (HB48.out.trans (hb.mono HB48.out.size)); clear HB48; have H55 := Lib.hid (ow_below H49.out hb); clear H49; have H56 := Lib.hid (ow_below H50.out hb); clear H50; have H57 := Lib.hid (ow_below H43.out hb); clear H43; have HK58 := Lib.hid (HK51.out.below hb HK51.out.lt); clear HK51; have HK59 := Lib.hid (HK52.out.below hb HK52.out.lt); clear HK52; clear hb))
  go_ret
  exact ⟨rfl, (HC.out.step HB54.out).below⟩

end Go.Proofs.Ytmhkechkkpppaaa.LSeenBy
