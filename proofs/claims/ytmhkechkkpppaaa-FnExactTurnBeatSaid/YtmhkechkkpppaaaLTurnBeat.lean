/- The law FnExactTurnBeat, walked: the program and the reference answer the same. No condition. -/
import Derived.Test.YtmhkechkkpppaaaGB
import Derived.Test.YtmhkechkkpppaaaGC
import Derived.Test.YtmhkechkkpppaaaTB
import Derived.Test.YtmhkechkkpppaaaMkBeat
import Derived.Test.YtmhkechkkpppaaaMkBeatM
namespace Go.Proofs.Ytmhkechkkpppaaa.LTurnBeat
open Go.RowKit Go.Proofs.YtmhkechkkpppaaaW.PrintWords Go.Proofs.YtmhkechkkpppaaaW.PrintLast Go.Proofs.Ytmhkechkkpppaaa.PAll
set_option linter.unusedSimpArgs false
set_option linter.unusedVariables false

set_option maxRecDepth 100000 in
set_option maxHeartbeats 8000000 in
theorem walk (w : World) (cs0 : List Value) (i0 : R.Ints fldKinds cs0) (A1 : Option Addr) (c1 : Nat) (b : List Int) (hc1 : b.length ≤ c1) (hm1 : b.length ≤ maxLen) (hw1 : ∀ x ∈ b, (Lit.int .i16 x).wf = true) (hC1 : Kd.C (Kd.int .i16) w A1 b.length b) (y : Int) (wy : (Lit.int .i64 y).wf = true) :
    Calls Try.prog 5 #[.agg cs0.toArray, .slice A1 b.length c1, .int .i64 y] w fun e w' => e = .returned (.bool true) ∧ Below w.heap.size w w' := by
  obtain ⟨F, hF', rfl⟩ := fld_of_ints i0
  have hF := Lib.hid hF'
  clear i0 hF'
  by_cases hlen1 : b.length ≤ 1048576
  case neg =>
    have hl1 : (1048576 : Int) < (b.length : Int) := by omega
    have hmm := hm1
    unfold maxLen at hmm
    clear hC1 hw1 hm1
    go_enter Try.func5, Try.ntmps5
    go_wp2
    go_ret
    exact ⟨rfl, (boxed1 w F.vals 27).below⟩
  have hbo' : BtOk b := btOk_of hw1
  have hbo := Lib.hid hbo'
  clear hbo'
  obtain ⟨V, hV⟩ : ∃ V, V = tbRes F b y := ⟨_, rfl⟩
  have HSp' := fun A n w1 hA hlc => sTurnBeat_any F hF.out b hbo.out y A n w1 hA hlc
  have HIm' := fun A n w1 hA hlc => iTurnBeat_any F hF.out b hbo.out y A n w1 hA hlc
  have hVl' := tbRes_len F b y
  rw [← hV] at HSp' HIm' hVl'
  clear hV
  have HSp := Lib.hid HSp'
  clear HSp'
  have HIm := Lib.hid HIm'
  clear HIm'
  have hVl := Lib.hid hVl'
  clear hVl'
  obtain ⟨kx1, mx1, yx1, g1, g2, g3, gx1⟩ := marks_Beat b hlen1
  have gy1 : 1 ≤ mx1 ∧ mx1 ≤ 1048577 := by omega
  clear gx1
  have MX1 := Lib.hid g1
  have MX1l := Lib.hid g2
  clear g1 g2 g3
  have hgd1 : decide (mx1 < 0) = false := decide_eq_false (by omega)
  obtain ⟨k0, m0, y0, g1, g2, g3, gm0⟩ := marks_Beat V.1 hVl.out
  have gn0 : 1 ≤ m0 := by omega
  clear gm0
  have M0 := Lib.hid g1
  have M0l := Lib.hid g2
  have M0h := Lib.hid g3
  clear g1 g2 g3
  have hmm0 : (m0 != m0) = false := by simp
  have hV0 : (V.2 != V.2) = false := by simp
  have HCP1 := Lib.hid hC1
  have HCc1 := Lib.hid hc1
  have hmm1p := hm1
  unfold maxLen at hmm1p
  clear hC1 hc1 hm1
  have HWf1 := Lib.hid hw1
  clear hw1
  go_enter Try.func5, Try.ntmps5
  go_upto_region 1 with (fail)
  obtain ⟨W, hW⟩ : ∃ W, W = w.alloc (.cells F.vals.toArray 27) := ⟨_, rfl⟩
  have HC := Lib.hid (boxed1 w F.vals 27)
  rw [← hW] at HC ⊢
  clear hW
  have HB0 := Lib.hid (Below.refl W.heap.size W)
  go_wp2_with (first
    | ((with_reducible refine gate_dst (N := 21) rfl ?_); refine wpList_load_blk rfl 27 (.tmp 3) rfl (w.heap.size) 0 (by kernel_rfl) F.vals _ ((HC.out.step HB0.out).blk (w.heap.size, F.vals, 27) (List.Mem.head _)) (by rw [List.drop_zero, List.take_length]) Try.underlying27 rfl (by rw [hF.out.len]; kernel_rfl) ?_)
    | ((with_reducible refine gate_dst (N := 22) rfl ?_); refine goesL_ (some 22) rfl rfl Try.func14 (by kernel_rfl) rfl #[.agg F.vals.toArray] rfl (by simp only [List.map_toArray, List.map_cons, List.map_nil]; kernel_rfl) ?_; refine (toField_any F hF.out _).mono ?_; rintro e w1 ⟨rfl, hb⟩; refine ⟨_, rfl, ?_⟩; have HB2 := Lib.hid (HB0.out.trans (hb.mono HB0.out.size)); clear HB0; clear hb)
    | ((with_reducible refine gate_dst (N := 24) rfl ?_); refine goesL_ (some 24) rfl rfl Try.func15 (by kernel_rfl) rfl #[.slice A1 b.length c1] rfl (by simp only [List.map_toArray, List.map_cons, List.map_nil]; kernel_rfl) ?_; refine (toBeat_any (w := _) b  (Kd.C_below HCP1.out (HC.out.step HB2.out).below) hlen1 HCc1.out).mono ?_; rintro e w3 ⟨vv, rfl, hm, hb⟩; refine ⟨_, rfl, ?_⟩; obtain ⟨AX1, cX1, hv⟩ := Kd.R_slice hm; subst hv; have H4 := Lib.hid (ow_new (d := (Kd.int .i16)) rfl hm HB2.out); have HB5 := Lib.hid (HB2.out.trans (hb.mono HB2.out.size)); clear HB2; clear hm hb)
    | ((with_reducible refine gate_dst (N := 26) rfl ?_); refine goesL_ (some 26) rfl rfl Try.func23 (by kernel_rfl) rfl #[.agg F.vals.toArray, .slice AX1 b.length cX1, .int .i64 y] rfl (by simp only [List.map_toArray, List.map_cons, List.map_nil]; kernel_rfl) ?_; refine (HSp.out _ _ _ (ow_C H4.out) (ow_cap H4.out)).mono ?_; rintro e w6 ⟨vS20, rfl, hm0, hb⟩; refine ⟨_, rfl, ?_⟩; obtain ⟨AS20, cS20, hv⟩ := Kd.R_slice hm0; subst hv; have H7 := Lib.hid (ow_new (d := (Kd.int .i16)) rfl hm0 HB5.out); have HA8 := Lib.hid (apart_new hm0 H4.out).1; have HA9 := Lib.hid (apart_new hm0 H4.out).2; have HB10 := Lib.hid (HB5.out.trans (hb.mono HB5.out.size)); clear HB5; have H11 := Lib.hid (ow_below H4.out hb); clear H4; clear hm0 hb)
    | ((with_reducible refine gate_dst (N := 30) rfl ?_); refine goesL_ (some 30) rfl rfl Try.func15 (by kernel_rfl) rfl #[.slice A1 b.length c1] rfl (by simp only [List.map_toArray, List.map_cons, List.map_nil]; kernel_rfl) ?_; refine (toBeat_any (w := _) b  (Kd.C_below HCP1.out (HC.out.step HB10.out).below) hlen1 HCc1.out).mono ?_; rintro e w12 ⟨vv, rfl, hm, hb⟩; refine ⟨_, rfl, ?_⟩; obtain ⟨AX3, cX3, hv⟩ := Kd.R_slice hm; subst hv; have H13 := Lib.hid (ow_new (d := (Kd.int .i16)) rfl hm HB10.out); have HA14 := Lib.hid (apart_new hm H11.out).1; have HA15 := Lib.hid (apart_new hm H11.out).2; have HA16 := Lib.hid (apart_new hm H7.out).1; have HA17 := Lib.hid (apart_new hm H7.out).2; have HB18 := Lib.hid (HB10.out.trans (hb.mono HB10.out.size)); clear HB10; have H19 := Lib.hid (ow_below H11.out hb); clear H11; have H20 := Lib.hid (ow_below H7.out hb); clear H7; clear hm hb)
    | ((with_reducible refine gate_dst (N := 32) rfl ?_); refine wpList_load_blk rfl 27 (.tmp 3) rfl (w.heap.size) 0 (by kernel_rfl) F.vals _ ((HC.out.step HB18.out).blk (w.heap.size, F.vals, 27) (List.Mem.head _)) (by rw [List.drop_zero, List.take_length]) Try.underlying27 rfl (by rw [hF.out.len]; kernel_rfl) ?_)
    | ((with_reducible refine gate_dst (N := 33) rfl ?_); refine goesL_ (some 33) rfl rfl Try.func14 (by kernel_rfl) rfl #[.agg F.vals.toArray] rfl (by simp only [List.map_toArray, List.map_cons, List.map_nil]; kernel_rfl) ?_; refine (toField_any F hF.out _).mono ?_; rintro e w21 ⟨rfl, hb⟩; refine ⟨_, rfl, ?_⟩; have HB22 := Lib.hid (HB18.out.trans (hb.mono HB18.out.size)); clear HB18; have H23 := Lib.hid (ow_below H19.out hb); clear H19; have H24 := Lib.hid (ow_below H20.out hb); clear H20; have H25 := Lib.hid (ow_below H13.out hb); clear H13; clear hb)
    | ((with_reducible refine gate_dst (N := 36) rfl ?_); refine goesL_ (some 36) rfl rfl Try.func24 (by kernel_rfl) rfl #[.agg F.vals.toArray, .slice AX3 b.length cX3, .int .i64 y] rfl (by simp only [List.map_toArray, List.map_cons, List.map_nil]; kernel_rfl) ?_; refine (HIm.out _ _ _ (ow_C H25.out) (ow_cap H25.out)).mono ?_; rintro e w26 ⟨vG40, rfl, hm0, hb⟩; refine ⟨_, rfl, ?_⟩; obtain ⟨AG40, cG40, hv⟩ := Kd.R_slice hm0; subst hv; have H27 := Lib.hid (ow_new (d := (Kd.int .i16)) rfl hm0 HB22.out); have HA28 := Lib.hid (apart_new hm0 H23.out).1; have HA29 := Lib.hid (apart_new hm0 H23.out).2; have HA30 := Lib.hid (apart_new hm0 H24.out).1; have HA31 := Lib.hid (apart_new hm0 H24.out).2; have HA32 := Lib.hid (apart_new hm0 H25.out).1; have HA33 := Lib.hid (apart_new hm0 H25.out).2; have HB34 := Lib.hid (HB22.out.trans (hb.mono HB22.out.size)); clear HB22; have H35 := Lib.hid (ow_below H23.out hb); clear H23; have H36 := Lib.hid (ow_below H24.out hb); clear H24; have H37 := Lib.hid (ow_below H25.out hb); clear H25; clear hm0 hb)
    | ((with_reducible refine gate_dst (N := 41) rfl ?_); refine goesL_ (some 41) rfl rfl Try.func17 (by kernel_rfl) rfl #[.slice AG40 V.1.length cG40, .slice AS20 V.1.length cS20] rfl (by simp only [List.map_toArray, List.map_cons, List.map_nil]; kernel_rfl) ?_; refine (eqO_Beat H27.out H36.out hVl.out).mono ?_; rintro e w38 ⟨rfl, hb⟩; refine ⟨_, rfl, ?_⟩; have HB39 := Lib.hid (HB34.out.trans (hb.mono HB34.out.size)); clear HB34; have H40 := Lib.hid (ow_below H35.out hb); clear H35; have H41 := Lib.hid (ow_below H36.out hb); clear H36; have H42 := Lib.hid (ow_below H37.out hb); clear H37; have H43 := Lib.hid (ow_below H27.out hb); clear H27; clear hb)
    | ((with_reducible refine gate_dst (N := 50) rfl ?_); refine goesL_ (some 50) rfl rfl Try.func15 (by kernel_rfl) rfl #[.slice A1 b.length c1] rfl (by simp only [List.map_toArray, List.map_cons, List.map_nil]; kernel_rfl) ?_; refine (toBeat_any (w := _) b  (Kd.C_below HCP1.out (HC.out.step HB39.out).below) hlen1 HCc1.out).mono ?_; rintro e w44 ⟨vv, rfl, hm, hb⟩; refine ⟨_, rfl, ?_⟩; obtain ⟨AX5, cX5, hv⟩ := Kd.R_slice hm; subst hv; have H45 := Lib.hid (ow_new (d := (Kd.int .i16)) rfl hm HB39.out); have HA46 := Lib.hid (apart_new hm H40.out).1; have HA47 := Lib.hid (apart_new hm H40.out).2; have HA48 := Lib.hid (apart_new hm H41.out).1; have HA49 := Lib.hid (apart_new hm H41.out).2; have HA50 := Lib.hid (apart_new hm H42.out).1; have HA51 := Lib.hid (apart_new hm H42.out).2; have HA52 := Lib.hid (apart_new hm H43.out).1; have HA53 := Lib.hid (apart_new hm H43.out).2; have HB54 := Lib.hid (HB39.out.trans (hb.mono HB39.out.size)); clear HB39; have H55 := Lib.hid (ow_below H40.out hb); clear H40; have H56 := Lib.hid (ow_below H41.out hb); clear H41; have H57 := Lib.hid (ow_below H42.out hb); clear H42; have H58 := Lib.hid (ow_below H43.out hb); clear H43; clear hm hb)
    | ((with_reducible refine gate_dst (N := 51) rfl ?_); refine goesL_ (some 51) rfl rfl Try.func17 (by kernel_rfl) rfl #[.slice AX3 b.length cX3, .slice AX5 b.length cX5] rfl (by simp only [List.map_toArray, List.map_cons, List.map_nil]; kernel_rfl) ?_; refine (eqO_Beat H57.out H45.out hlen1).mono ?_; rintro e w59 ⟨rfl, hb⟩; refine ⟨_, rfl, ?_⟩; have HB60 := Lib.hid (HB54.out.trans (hb.mono HB54.out.size)); clear HB54; have H61 := Lib.hid (ow_below H55.out hb); clear H55; have H62 := Lib.hid (ow_below H56.out hb); clear H56; have H63 := Lib.hid (ow_below H57.out hb); clear H57; have H64 := Lib.hid (ow_below H58.out hb); clear H58; have H65 := Lib.hid (ow_below H45.out hb); clear H45; clear hb)
    | ((with_reducible refine gate_dst (N := 55) rfl ?_); refine goesL_ (some 55) rfl rfl Try.func18 (by kernel_rfl) rfl #[.slice AX3 b.length cX3, .int .i64 1] rfl (by simp only [List.map_toArray, List.map_cons, List.map_nil]; kernel_rfl) ?_; refine (markO_Beat HB60.out H63.out MX1.out).mono ?_; rintro e w66 ⟨rfl, ho, hbb, hkk⟩; refine ⟨_, rfl, ?_⟩; have HB67 := Lib.hid hbb; have H68 := Lib.hid ho; clear HB60; have H69 := Lib.hid (ow_kept H61.out HA14.out hkk); clear H61; have H70 := Lib.hid (ow_kept H62.out HA16.out hkk); clear H62; have H71 := Lib.hid (ow_kept H64.out HA33.out hkk); clear H64; have H72 := Lib.hid (ow_kept H65.out HA51.out hkk); clear H65; clear H63; clear ho hbb hkk)
    | ((with_reducible refine gate_dst (N := 61) rfl ?_); (with_reducible refine wpList_guard (by kernel_rfl) ?_); refine goesL_ (some 61) rfl rfl Try.func17 (by kernel_rfl) rfl #[.slice AG40 V.1.length cG40, .slice AS20 V.1.length cS20] rfl (by simp only [List.map_toArray, List.map_cons, List.map_nil]; kernel_rfl) ?_; refine (eqO_Beat H71.out H70.out hVl.out).mono ?_; rintro e w73 ⟨rfl, hb⟩; refine ⟨_, rfl, ?_⟩; have HB74 := Lib.hid (HB67.out.trans (hb.mono HB67.out.size)); clear HB67; have H75 := Lib.hid (ow_below H69.out hb); clear H69; have H76 := Lib.hid (ow_below H70.out hb); clear H70; have H77 := Lib.hid (ow_below H68.out hb); clear H68; have H78 := Lib.hid (ow_below H71.out hb); clear H71; have H79 := Lib.hid (ow_below H72.out hb); clear H72; clear hb)
    | ((with_reducible refine gate_dst (N := 71) rfl ?_); refine goesL_ (some 71) rfl rfl Try.func18 (by kernel_rfl) rfl #[.slice AG40 V.1.length cG40, .int .i64 1] rfl (by simp only [List.map_toArray, List.map_cons, List.map_nil]; kernel_rfl) ?_; refine (markO_Beat HB74.out H78.out M0.out).mono ?_; rintro e w80 ⟨rfl, ho, hbb, hkk⟩; refine ⟨_, rfl, ?_⟩; have HB81 := Lib.hid hbb; have H82 := Lib.hid ho; clear HB74; have H83 := Lib.hid (ow_kept H75.out HA28.out hkk); clear H75; have H84 := Lib.hid (ow_kept H76.out HA30.out hkk); clear H76; have H85 := Lib.hid (ow_kept H77.out HA32.out hkk); clear H77; have H86 := Lib.hid (ow_kept H79.out HA53.out hkk); clear H79; clear H78; clear ho hbb hkk)
    | ((with_reducible refine gate_dst (N := 74) rfl ?_); refine goesL_ (some 74) rfl rfl Try.func19 (by kernel_rfl) rfl #[.slice AG40 V.1.length cG40, .int .i64 1] rfl (by simp only [List.map_toArray, List.map_cons, List.map_nil]; kernel_rfl) ?_; refine (heldO_Beat M0l.out.symm H82.out M0h.out).mono ?_; rintro e w87 ⟨rfl, hb⟩; refine ⟨_, rfl, ?_⟩; have HB88 := Lib.hid (HB81.out.trans (hb.mono HB81.out.size)); clear HB81; have H89 := Lib.hid (ow_below H83.out hb); clear H83; have H90 := Lib.hid (ow_below H84.out hb); clear H84; have H91 := Lib.hid (ow_below H85.out hb); clear H85; have H92 := Lib.hid (ow_below H82.out hb); clear H82; have H93 := Lib.hid (ow_below H86.out hb); clear H86; clear hb)
    | ((with_reducible refine gate_dst (N := 81) rfl ?_); refine wpList_load_blk rfl 27 (.tmp 3) rfl (w.heap.size) 0 (by kernel_rfl) F.vals _ ((HC.out.step HB88.out).blk (w.heap.size, F.vals, 27) (List.Mem.head _)) (by rw [List.drop_zero, List.take_length]) Try.underlying27 rfl (by rw [hF.out.len]; kernel_rfl) ?_)
    | ((with_reducible refine gate_dst (N := 82) rfl ?_); refine goesL_ (some 82) rfl rfl Try.func14 (by kernel_rfl) rfl #[.agg F.vals.toArray] rfl (by simp only [List.map_toArray, List.map_cons, List.map_nil]; kernel_rfl) ?_; refine (toField_any F hF.out _).mono ?_; rintro e w94 ⟨rfl, hb⟩; refine ⟨_, rfl, ?_⟩; have HB95 := Lib.hid (HB88.out.trans (hb.mono HB88.out.size)); clear HB88; have H96 := Lib.hid (ow_below H89.out hb); clear H89; have H97 := Lib.hid (ow_below H90.out hb); clear H90; have H98 := Lib.hid (ow_below H91.out hb); clear H91; have H99 := Lib.hid (ow_below H92.out hb); clear H92; have H100 := Lib.hid (ow_below H93.out hb); clear H93; clear hb)
    | ((with_reducible refine gate_dst (N := 84) rfl ?_); refine goesL_ (some 84) rfl rfl Try.func15 (by kernel_rfl) rfl #[.slice A1 b.length c1] rfl (by simp only [List.map_toArray, List.map_cons, List.map_nil]; kernel_rfl) ?_; refine (toBeat_any (w := _) b  (Kd.C_below HCP1.out (HC.out.step HB95.out).below) hlen1 HCc1.out).mono ?_; rintro e w101 ⟨vv, rfl, hm, hb⟩; refine ⟨_, rfl, ?_⟩; obtain ⟨AX6, cX6, hv⟩ := Kd.R_slice hm; subst hv; have H102 := Lib.hid (ow_new (d := (Kd.int .i16)) rfl hm HB95.out); have HA103 := Lib.hid (apart_new hm H96.out).1; have HA104 := Lib.hid (apart_new hm H96.out).2; have HA105 := Lib.hid (apart_new hm H97.out).1; have HA106 := Lib.hid (apart_new hm H97.out).2; have HA107 := Lib.hid (apart_new hm H98.out).1; have HA108 := Lib.hid (apart_new hm H98.out).2; have HA109 := Lib.hid (apart_new hm H99.out).1; have HA110 := Lib.hid (apart_new hm H99.out).2; have HA111 := Lib.hid (apart_new hm H100.out).1; have HA112 := Lib.hid (apart_new hm H100.out).2; have HB113 := Lib.hid (HB95.out.trans (hb.mono HB95.out.size)); clear HB95; have H114 := Lib.hid (ow_below H96.out hb); clear H96; have H115 := Lib.hid (ow_below H97.out hb); clear H97; have H116 := Lib.hid (ow_below H98.out hb); clear H98; have H117 := Lib.hid (ow_below H99.out hb); clear H99; have H118 := Lib.hid (ow_below H100.out hb); clear H100; clear hm hb)
    | ((with_reducible refine gate_dst (N := 86) rfl ?_); refine goesL_ (some 86) rfl rfl Try.func24 (by kernel_rfl) rfl #[.agg F.vals.toArray, .slice AX6 b.length cX6, .int .i64 y] rfl (by simp only [List.map_toArray, List.map_cons, List.map_nil]; kernel_rfl) ?_; refine (HIm.out _ _ _ (ow_C H102.out) (ow_cap H102.out)).mono ?_; rintro e w119 ⟨vG70, rfl, hm0, hb⟩; refine ⟨_, rfl, ?_⟩; obtain ⟨AG70, cG70, hv⟩ := Kd.R_slice hm0; subst hv; have H120 := Lib.hid (ow_new (d := (Kd.int .i16)) rfl hm0 HB113.out); have HA121 := Lib.hid (apart_new hm0 H114.out).1; have HA122 := Lib.hid (apart_new hm0 H114.out).2; have HA123 := Lib.hid (apart_new hm0 H115.out).1; have HA124 := Lib.hid (apart_new hm0 H115.out).2; have HA125 := Lib.hid (apart_new hm0 H116.out).1; have HA126 := Lib.hid (apart_new hm0 H116.out).2; have HA127 := Lib.hid (apart_new hm0 H117.out).1; have HA128 := Lib.hid (apart_new hm0 H117.out).2; have HA129 := Lib.hid (apart_new hm0 H118.out).1; have HA130 := Lib.hid (apart_new hm0 H118.out).2; have HA131 := Lib.hid (apart_new hm0 H102.out).1; have HA132 := Lib.hid (apart_new hm0 H102.out).2; have HB133 := Lib.hid (HB113.out.trans (hb.mono HB113.out.size)); clear HB113; have H134 := Lib.hid (ow_below H114.out hb); clear H114; have H135 := Lib.hid (ow_below H115.out hb); clear H115; have H136 := Lib.hid (ow_below H116.out hb); clear H116; have H137 := Lib.hid (ow_below H117.out hb); clear H117; have H138 := Lib.hid (ow_below H118.out hb); clear H118; have H139 := Lib.hid (ow_below H102.out hb); clear H102; clear hm0 hb)
    | ((with_reducible refine gate_dst (N := 91) rfl ?_); refine goesL_ (some 91) rfl rfl Try.func17 (by kernel_rfl) rfl #[.slice AG70 V.1.length cG70, .slice AS20 V.1.length cS20] rfl (by simp only [List.map_toArray, List.map_cons, List.map_nil]; kernel_rfl) ?_; refine (eqO_Beat H120.out H135.out hVl.out).mono ?_; rintro e w140 ⟨rfl, hb⟩; refine ⟨_, rfl, ?_⟩; have HB141 := Lib.hid (HB133.out.trans (hb.mono HB133.out.size)); clear HB133; have H142 := Lib.hid (ow_below H134.out hb); clear H134; have H143 := Lib.hid (ow_below H135.out hb); clear H135; have H144 := Lib.hid (ow_below H136.out hb); clear H136; have H145 := Lib.hid (ow_below H137.out hb); clear H137; have H146 := Lib.hid (ow_below H138.out hb); clear H138; have H147 := Lib.hid (ow_below H139.out hb); clear H139; have H148 := Lib.hid (ow_below H120.out hb); clear H120; clear hb)
    | ((with_reducible refine gate_dst (N := 100) rfl ?_); refine goesL_ (some 100) rfl rfl Try.func19 (by kernel_rfl) rfl #[.slice AG40 V.1.length cG40, .int .i64 1] rfl (by simp only [List.map_toArray, List.map_cons, List.map_nil]; kernel_rfl) ?_; refine (heldO_Beat M0l.out.symm H145.out M0h.out).mono ?_; rintro e w149 ⟨rfl, hb⟩; refine ⟨_, rfl, ?_⟩; have HB150 := Lib.hid (HB141.out.trans (hb.mono HB141.out.size)); clear HB141; have H151 := Lib.hid (ow_below H142.out hb); clear H142; have H152 := Lib.hid (ow_below H143.out hb); clear H143; have H153 := Lib.hid (ow_below H144.out hb); clear H144; have H154 := Lib.hid (ow_below H145.out hb); clear H145; have H155 := Lib.hid (ow_below H146.out hb); clear H146; have H156 := Lib.hid (ow_below H147.out hb); clear H147; have H157 := Lib.hid (ow_below H148.out hb); clear H148; clear hb))
  go_ret
  exact ⟨rfl, (HC.out.step HB150.out).below⟩

end Go.Proofs.Ytmhkechkkpppaaa.LTurnBeat
