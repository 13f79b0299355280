/- The law FnExactCheckBeat, walked: the program and the reference answer the same. No condition. -/
import Derived.Test.YtmhkechkkpppaaaGB
import Derived.Test.YtmhkechkkpppaaaGC
import Derived.Test.YtmhkechkkpppaaaCB
import Derived.Test.YtmhkechkkpppaaaMkBeat
import Derived.Test.YtmhkechkkpppaaaMkInt
namespace Go.Proofs.Ytmhkechkkpppaaa.LCheckBeat
open Go.RowKit Go.Proofs.YtmhkechkkpppaaaW.PrintWords Go.Proofs.YtmhkechkkpppaaaW.PrintLast Go.Proofs.Ytmhkechkkpppaaa.PAll
set_option linter.unusedSimpArgs false
set_option linter.unusedVariables false

set_option maxRecDepth 100000 in
set_option maxHeartbeats 8000000 in
theorem walk (w : World) (cs0 : List Value) (i0 : R.Ints fldKinds cs0) (A1 : Option Addr) (c1 : Nat) (b : List Int) (hc1 : b.length ≤ c1) (hm1 : b.length ≤ maxLen) (hw1 : ∀ x ∈ b, (Lit.int .i16 x).wf = true) (hC1 : Kd.C (Kd.int .i16) w A1 b.length b) (s : Int) (ws : (Lit.int .i64 s).wf = true) (A3 : Option Addr) (c3 : Nat) (ts : List Int) (hc3 : ts.length ≤ c3) (hm3 : ts.length ≤ maxLen) (hw3 : ∀ x ∈ ts, (Lit.int .i64 x).wf = true) (hC3 : Kd.C (Kd.int .i64) w A3 ts.length ts) :
    Calls Try.prog 10 #[.agg cs0.toArray, .slice A1 b.length c1, .int .i64 s, .slice A3 ts.length c3] w fun e w' => e = .returned (.bool true) ∧ Below w.heap.size w w' := by
  obtain ⟨F, hF', rfl⟩ := fld_of_ints i0
  have hF := Lib.hid hF'
  clear i0 hF'
  by_cases hlen1 : b.length ≤ 1048576
  case neg =>
    have hl1 : (1048576 : Int) < (b.length : Int) := by omega
    have hmm := hm1
    unfold maxLen at hmm
    clear hC1 hw1 hm1
    try clear hC3 hw3 hm3
    go_enter Try.func10, Try.ntmps10
    go_wp2
    go_ret
    exact ⟨rfl, (boxed1 w F.vals 27).below⟩
  by_cases hlen3 : ts.length ≤ 1048576
  case neg =>
    have hl1 : (1048576 : Int) < (ts.length : Int) := by omega
    have hmm := hm3
    unfold maxLen at hmm
    clear hC3 hw3 hm3
    try clear hC1 hw1 hm1
    go_enter Try.func10, Try.ntmps10
    go_wp2
    go_ret
    exact ⟨rfl, (boxed1 w F.vals 27).below⟩
  have hbo' : BtOk b := btOk_of hw1
  have hbo := Lib.hid hbo'
  clear hbo'
  obtain ⟨V, hV⟩ : ∃ V, V = cbRes F b s ts := ⟨_, rfl⟩
  have HSp' := fun A n A2 n2 w1 hA hlc hA2 => sCheckBeat_any F hF.out b hbo.out s ts A n A2 n2 w1 hA hlc hA2
  have HIm' := fun A n A2 n2 w1 hA hlc hA2 => iCheckBeat_any F hF.out b hbo.out s ts A n A2 n2 w1 hA hlc hA2
  rw [← hV] at HSp' HIm'
  clear hV
  have HSp := Lib.hid HSp'
  clear HSp'
  have HIm := Lib.hid HIm'
  clear HIm'
  have hV0 : (V.1 != V.1) = false := by simp
  have hV1 : (V.2 != V.2) = false := by simp
  have HCP1 := Lib.hid hC1
  have HCc1 := Lib.hid hc1
  have hmm1p := hm1
  unfold maxLen at hmm1p
  clear hC1 hc1 hm1
  have HWf1 := Lib.hid hw1
  clear hw1
  have HCP3 := Lib.hid hC3
  have HCc3 := Lib.hid hc3
  have hmm3p := hm3
  unfold maxLen at hmm3p
  clear hC3 hc3 hm3
  have HWf3 := Lib.hid hw3
  clear hw3
  go_enter Try.func10, Try.ntmps10
  go_upto_region 1 with (fail)
  obtain ⟨W, hW⟩ : ∃ W, W = w.alloc (.cells F.vals.toArray 27) := ⟨_, rfl⟩
  have HC := Lib.hid (boxed1 w F.vals 27)
  rw [← hW] at HC ⊢
  clear hW
  have HB0 := Lib.hid (Below.refl W.heap.size W)
  go_wp2_with (first
    | ((with_reducible refine gate_dst (N := 22) rfl ?_); refine wpList_load_blk rfl 27 (.tmp 4) rfl (w.heap.size) 0 (by kernel_rfl) F.vals _ ((HC.out.step HB0.out).blk (w.heap.size, F.vals, 27) (List.Mem.head _)) (by rw [List.drop_zero, List.take_length]) Try.underlying27 rfl (by rw [hF.out.len]; kernel_rfl) ?_)
    | ((with_reducible refine gate_dst (N := 23) rfl ?_); refine goesL_ (some 23) rfl rfl Try.func14 (by kernel_rfl) rfl #[.agg F.vals.toArray] rfl (by simp only [List.map_toArray, List.map_cons, List.map_nil]; kernel_rfl) ?_; refine (toField_any F hF.out _).mono ?_; rintro e w1 ⟨rfl, hb⟩; refine ⟨_, rfl, ?_⟩; have HB2 := Lib.hid (HB0.out.trans (hb.mono HB0.out.size)); clear HB0; clear hb)
    | ((with_reducible refine gate_dst (N := 25) rfl ?_); refine goesL_ (some 25) rfl rfl Try.func15 (by kernel_rfl) rfl #[.slice A1 b.length c1] rfl (by simp only [List.map_toArray, List.map_cons, List.map_nil]; kernel_rfl) ?_; refine (toBeat_any (w := _) b  (Kd.C_below HCP1.out (HC.out.step HB2.out).below) hlen1 HCc1.out).mono ?_; rintro e w3 ⟨vv, rfl, hm, hb⟩; refine ⟨_, rfl, ?_⟩; obtain ⟨AX1, cX1, hv⟩ := Kd.R_slice hm; subst hv; have H4 := Lib.hid (ow_new (d := (Kd.int .i16)) rfl hm HB2.out); have HB5 := Lib.hid (HB2.out.trans (hb.mono HB2.out.size)); clear HB2; clear hm hb)
    | ((with_reducible refine gate_dst (N := 28) rfl ?_); refine goesL_ (some 28) rfl rfl Try.func37 (by kernel_rfl) rfl #[.slice A3 ts.length c3] rfl (by simp only [List.map_toArray, List.map_cons, List.map_nil]; kernel_rfl) ?_; refine (toInt64S_any (w := _) ts  (Kd.C_below HCP3.out (HC.out.step HB5.out).below) hlen3 HCc3.out).mono ?_; rintro e w6 ⟨vv, rfl, hm, hb⟩; refine ⟨_, rfl, ?_⟩; obtain ⟨AX2, cX2, hv⟩ := Kd.R_slice hm; subst hv; have H7 := Lib.hid (ow_new (d := (Kd.int .i64)) rfl hm HB5.out); have HA8 := Lib.hid (apart_new hm H4.out).1; have HA9 := Lib.hid (apart_new hm H4.out).2; have HB10 := Lib.hid (HB5.out.trans (hb.mono HB5.out.size)); clear HB5; have H11 := Lib.hid (ow_below H4.out hb); clear H4; clear hm hb)
    | ((with_reducible refine gate_dst (N := 29) rfl ?_); refine goesL_ (some 29) rfl rfl Try.func36 (by kernel_rfl) rfl #[.agg F.vals.toArray, .slice AX1 b.length cX1, .int .i64 s, .slice AX2 ts.length cX2] rfl (by simp only [List.map_toArray, List.map_cons, List.map_nil]; kernel_rfl) ?_; refine (HSp.out _ _ _ _ _ (ow_C H11.out) (ow_cap H11.out) (ow_C H7.out)).mono ?_; rintro e w12 ⟨rfl, hb⟩; refine ⟨_, rfl, ?_⟩; have HB13 := Lib.hid (HB10.out.trans (hb.mono HB10.out.size)); clear HB10; have H14 := Lib.hid (ow_below H11.out hb); clear H11; have H15 := Lib.hid (ow_below H7.out hb); clear H7; clear hb)
    | ((with_reducible refine gate_dst (N := 33) rfl ?_); refine goesL_ (some 33) rfl rfl Try.func15 (by kernel_rfl) rfl #[.slice A1 b.length c1] rfl (by simp only [List.map_toArray, List.map_cons, List.map_nil]; kernel_rfl) ?_; refine (toBeat_any (w := _) b  (Kd.C_below HCP1.out (HC.out.step HB13.out).below) hlen1 HCc1.out).mono ?_; rintro e w16 ⟨vv, rfl, hm, hb⟩; refine ⟨_, rfl, ?_⟩; obtain ⟨AX4, cX4, hv⟩ := Kd.R_slice hm; subst hv; have H17 := Lib.hid (ow_new (d := (Kd.int .i16)) rfl hm HB13.out); have HA18 := Lib.hid (apart_new hm H14.out).1; have HA19 := Lib.hid (apart_new hm H14.out).2; have HA20 := Lib.hid (apart_new hm H15.out).1; have HA21 := Lib.hid (apart_new hm H15.out).2; have HB22 := Lib.hid (HB13.out.trans (hb.mono HB13.out.size)); clear HB13; have H23 := Lib.hid (ow_below H14.out hb); clear H14; have H24 := Lib.hid (ow_below H15.out hb); clear H15; clear hm hb)
    | ((with_reducible refine gate_dst (N := 35) rfl ?_); refine goesL_ (some 35) rfl rfl Try.func37 (by kernel_rfl) rfl #[.slice A3 ts.length c3] rfl (by simp only [List.map_toArray, List.map_cons, List.map_nil]; kernel_rfl) ?_; refine (toInt64S_any (w := _) ts  (Kd.C_below HCP3.out (HC.out.step HB22.out).below) hlen3 HCc3.out).mono ?_; rintro e w25 ⟨vv, rfl, hm, hb⟩; refine ⟨_, rfl, ?_⟩; obtain ⟨AX5, cX5, hv⟩ := Kd.R_slice hm; subst hv; have H26 := Lib.hid (ow_new (d := (Kd.int .i64)) rfl hm HB22.out); have HA27 := Lib.hid (apart_new hm H23.out).1; have HA28 := Lib.hid (apart_new hm H23.out).2; have HA29 := Lib.hid (apart_new hm H24.out).1; have HA30 := Lib.hid (apart_new hm H24.out).2; have HA31 := Lib.hid (apart_new hm H17.out).1; have HA32 := Lib.hid (apart_new hm H17.out).2; have HB33 := Lib.hid (HB22.out.trans (hb.mono HB22.out.size)); clear HB22; have H34 := Lib.hid (ow_below H23.out hb); clear H23; have H35 := Lib.hid (ow_below H24.out hb); clear H24; have H36 := Lib.hid (ow_below H17.out hb); clear H17; clear hm hb)
    | ((with_reducible refine gate_dst (N := 37) rfl ?_); refine wpList_load_blk rfl 27 (.tmp 4) rfl (w.heap.size) 0 (by kernel_rfl) F.vals _ ((HC.out.step HB33.out).blk (w.heap.size, F.vals, 27) (List.Mem.head _)) (by rw [List.drop_zero, List.take_length]) Try.underlying27 rfl (by rw [hF.out.len]; kernel_rfl) ?_)
    | ((with_reducible refine gate_dst (N := 38) rfl ?_); refine goesL_ (some 38) rfl rfl Try.func14 (by kernel_rfl) rfl #[.agg F.vals.toArray] rfl (by simp only [List.map_toArray, List.map_cons, List.map_nil]; kernel_rfl) ?_; refine (toField_any F hF.out _).mono ?_; rintro e w37 ⟨rfl, hb⟩; refine ⟨_, rfl, ?_⟩; have HB38 := Lib.hid (HB33.out.trans (hb.mono HB33.out.size)); clear HB33; have H39 := Lib.hid (ow_below H34.out hb); clear H34; have H40 := Lib.hid (ow_below H35.out hb); clear H35; have H41 := Lib.hid (ow_below H36.out hb); clear H36; have H42 := Lib.hid (ow_below H26.out hb); clear H26; clear hb)
    | ((with_reducible refine gate_dst (N := 42) rfl ?_); refine goesL_ (some 42) rfl rfl Try.func38 (by kernel_rfl) rfl #[.agg F.vals.toArray, .slice AX4 b.length cX4, .int .i64 s, .slice AX5 ts.length cX5] rfl (by simp only [List.map_toArray, List.map_cons, List.map_nil]; kernel_rfl) ?_; refine (HIm.out _ _ _ _ _ (ow_C H41.out) (ow_cap H41.out) (ow_C H42.out)).mono ?_; rintro e w43 ⟨rfl, hb⟩; refine ⟨_, rfl, ?_⟩; have HB44 := Lib.hid (HB38.out.trans (hb.mono HB38.out.size)); clear HB38; have H45 := Lib.hid (ow_below H39.out hb); clear H39; have H46 := Lib.hid (ow_below H40.out hb); clear H40; have H47 := Lib.hid (ow_below H41.out hb); clear H41; have H48 := Lib.hid (ow_below H42.out hb); clear H42; clear hb)
    | ((with_reducible refine gate_dst (N := 55) rfl ?_); refine goesL_ (some 55) rfl rfl Try.func15 (by kernel_rfl) rfl #[.slice A1 b.length c1] rfl (by simp only [List.map_toArray, List.map_cons, List.map_nil]; kernel_rfl) ?_; refine (toBeat_any (w := _) b  (Kd.C_below HCP1.out (HC.out.step HB44.out).below) hlen1 HCc1.out).mono ?_; rintro e w49 ⟨vv, rfl, hm, hb⟩; refine ⟨_, rfl, ?_⟩; obtain ⟨AX7, cX7, hv⟩ := Kd.R_slice hm; subst hv; have H50 := Lib.hid (ow_new (d := (Kd.int .i16)) rfl hm HB44.out); have HA51 := Lib.hid (apart_new hm H45.out).1; have HA52 := Lib.hid (apart_new hm H45.out).2; have HA53 := Lib.hid (apart_new hm H46.out).1; have HA54 := Lib.hid (apart_new hm H46.out).2; have HA55 := Lib.hid (apart_new hm H47.out).1; have HA56 := Lib.hid (apart_new hm H47.out).2; have HA57 := Lib.hid (apart_new hm H48.out).1; have HA58 := Lib.hid (apart_new hm H48.out).2; have HB59 := Lib.hid (HB44.out.trans (hb.mono HB44.out.size)); clear HB44; have H60 := Lib.hid (ow_below H45.out hb); clear H45; have H61 := Lib.hid (ow_below H46.out hb); clear H46; have H62 := Lib.hid (ow_below H47.out hb); clear H47; have H63 := Lib.hid (ow_below H48.out hb); clear H48; clear hm hb)
    | ((with_reducible refine gate_dst (N := 56) rfl ?_); refine goesL_ (some 56) rfl rfl Try.func17 (by kernel_rfl) rfl #[.slice AX4 b.length cX4, .slice AX7 b.length cX7] rfl (by simp only [List.map_toArray, List.map_cons, List.map_nil]; kernel_rfl) ?_; refine (eqO_Beat H62.out H50.out hlen1).mono ?_; rintro e w64 ⟨rfl, hb⟩; refine ⟨_, rfl, ?_⟩; have HB65 := Lib.hid (HB59.out.trans (hb.mono HB59.out.size)); clear HB59; have H66 := Lib.hid (ow_below H60.out hb); clear H60; have H67 := Lib.hid (ow_below H61.out hb); clear H61; have H68 := Lib.hid (ow_below H62.out hb); clear H62; have H69 := Lib.hid (ow_below H63.out hb); clear H63; have H70 := Lib.hid (ow_below H50.out hb); clear H50; clear hb)
    | ((with_reducible refine gate_dst (N := 60) rfl ?_); refine goesL_ (some 60) rfl rfl Try.func37 (by kernel_rfl) rfl #[.slice A3 ts.length c3] rfl (by simp only [List.map_toArray, List.map_cons, List.map_nil]; kernel_rfl) ?_; refine (toInt64S_any (w := _) ts  (Kd.C_below HCP3.out (HC.out.step HB65.out).below) hlen3 HCc3.out).mono ?_; rintro e w71 ⟨vv, rfl, hm, hb⟩; refine ⟨_, rfl, ?_⟩; obtain ⟨AX8, cX8, hv⟩ := Kd.R_slice hm; subst hv; have H72 := Lib.hid (ow_new (d := (Kd.int .i64)) rfl hm HB65.out); have HA73 := Lib.hid (apart_new hm H66.out).1; have HA74 := Lib.hid (apart_new hm H66.out).2; have HA75 := Lib.hid (apart_new hm H67.out).1; have HA76 := Lib.hid (apart_new hm H67.out).2; have HA77 := Lib.hid (apart_new hm H68.out).1; have HA78 := Lib.hid (apart_new hm H68.out).2; have HA79 := Lib.hid (apart_new hm H69.out).1; have HA80 := Lib.hid (apart_new hm H69.out).2; have HA81 := Lib.hid (apart_new hm H70.out).1; have HA82 := Lib.hid (apart_new hm H70.out).2; have HB83 := Lib.hid (HB65.out.trans (hb.mono HB65.out.size)); clear HB65; have H84 := Lib.hid (ow_below H66.out hb); clear H66; have H85 := Lib.hid (ow_below H67.out hb); clear H67; have H86 := Lib.hid (ow_below H68.out hb); clear H68; have H87 := Lib.hid (ow_below H69.out hb); clear H69; have H88 := Lib.hid (ow_below H70.out hb); clear H70; clear hm hb)
    | ((with_reducible refine gate_dst (N := 61) rfl ?_); refine goesL_ (some 61) rfl rfl Try.func29 (by kernel_rfl) rfl #[.slice AX5 ts.length cX5, .slice AX8 ts.length cX8] rfl (by simp only [List.map_toArray, List.map_cons, List.map_nil]; kernel_rfl) ?_; refine (eqO_Int H87.out H72.out hlen3).mono ?_; rintro e w89 ⟨rfl, hb⟩; refine ⟨_, rfl, ?_⟩; have HB90 := Lib.hid (HB83.out.trans (hb.mono HB83.out.size)); clear HB83; have H91 := Lib.hid (ow_below H84.out hb); clear H84; have H92 := Lib.hid (ow_below H85.out hb); clear H85; have H93 := Lib.hid (ow_below H86.out hb); clear H86; have H94 := Lib.hid (ow_below H87.out hb); clear H87; have H95 := Lib.hid (ow_below H88.out hb); clear H88; have H96 := Lib.hid (ow_below H72.out hb); clear H72; clear hb))
  go_ret
  exact ⟨rfl, (HC.out.step HB90.out).below⟩

end Go.Proofs.Ytmhkechkkpppaaa.LCheckBeat
