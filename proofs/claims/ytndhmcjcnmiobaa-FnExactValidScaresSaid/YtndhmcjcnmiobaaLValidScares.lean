/- The law FnExactValidScares, walked: the program and the reference answer the same. No condition. -/
import Derived.Test.YtndhmcjcnmiobaaGB
import Derived.Test.YtndhmcjcnmiobaaGC
import Derived.Test.YtndhmcjcnmiobaaS4
import Derived.Test.YtndhmcjcnmiobaaA6
namespace Go.Proofs.Ytndhmcjcnmiobaa.LValidScares
open Go.RowKit Go.Proofs.YtndhmcjcnmiobaaW.PrintWords Go.Proofs.YtndhmcjcnmiobaaW.PrintLast Go.Proofs.Ytndhmcjcnmiobaa.PAll
set_option linter.unusedSimpArgs false
set_option linter.unusedVariables false

set_option maxRecDepth 100000 in
set_option maxHeartbeats 8000000 in
theorem walk (w : World) (cs0 : List Value) (i0 : R.Ints fldKinds cs0) (A1 : Option Addr) (c1 : Nat) (l : List S63) (hc1 : l.length ≤ c1) (hm1 : l.length ≤ maxLen) (hC1 : Kd.C k63 w A1 l.length l ∧ ScsL l) :
    Calls Try.prog 3 #[.agg cs0.toArray, .slice A1 l.length c1] w fun e w' => e = .returned (.bool true) ∧ Below w.heap.size w w' := by
  obtain ⟨F, hF', rfl⟩ := fld_of_ints i0
  have hF := Lib.hid hF'
  clear i0 hF'
  obtain ⟨ys, hys⟩ : ∃ ys, ys = l.map ls := ⟨_, rfl⟩
  have hxs := Lib.hid (scsL_ok hC1.2)
  rw [← hys] at hxs
  by_cases hlen1 : l.length ≤ 1048576
  case neg =>
    have hl1 : (1048576 : Int) < (l.length : Int) := by omega
    have HC0 := Lib.hid hC1.1
    have HCc := Lib.hid hc1
    have hmm := hm1
    unfold maxLen at hmm
    clear hC1 hc1 hm1
    have HCx := Lib.hid (boxed1 w F.vals 27)
    go_enter Try.func3, Try.ntmps3
    go_wp2_with (go_at_call 9; refine (szSc_no (Kd.C_below HC0.out HCx.out.below) HCc.out hmm hl1).mono ?_; rintro e w1 ⟨rfl, hb⟩; have HB1 := Lib.hid (HCx.out.step hb).below; clear hb)
    go_ret
    exact ⟨rfl, HB1.out⟩
  have hLM : ys.length ≤ 1048576 := by rw [hys, List.length_map]; exact hlen1
  have HLM := Lib.hid hLM
  have hto := fun (w : World) (A : Option Addr) (c : Nat) (hC : Kd.C k63 w A l.length l) (hc : l.length ≤ c) => toScarecrowS_any l hC hlen1 hc
  rw [← hys] at hto
  have HTO := Lib.hid hto
  clear hto hys hLM
  have hz : (0 : Int) ≤ 1048576 - (l.length : Int) := by omega
  obtain ⟨V, hV⟩ : ∃ V, V = (F.valid && scOn F ys) := ⟨_, rfl⟩
  have HSp' := fun A c w1 hA hlc => sValidScares_any F hF.out ys hxs.out A c w1 hA hlc
  have HIm' := fun A c w1 hA hlc => iValidScares_any F hF.out ys hxs.out A c w1 hA hlc
  rw [← hV] at HSp' HIm'
  clear hV
  have HSp := Lib.hid HSp'
  clear HSp'
  have HIm := Lib.hid HIm'
  clear HIm'
  have hV0 : (V != V) = false := by simp
  have HCP1 := Lib.hid hC1
  have HCc1 := Lib.hid hc1
  have hmm1p := hm1
  unfold maxLen at hmm1p
  clear hC1 hc1 hm1
  go_enter Try.func3, Try.ntmps3
  go_upto_region 1 with (fail)
  obtain ⟨W, hW⟩ : ∃ W, W = w.alloc (.cells F.vals.toArray 27) := ⟨_, rfl⟩
  have HC := Lib.hid (boxed1 w F.vals 27)
  rw [← hW] at HC ⊢
  clear hW
  have HB0 := Lib.hid (Below.refl W.heap.size W)
  go_wp2_with (first
    | ((with_reducible refine gate_dst (N := 11) rfl ?_); refine goesL_ (some 11) rfl rfl Try.func9 (by kernel_rfl) rfl #[.slice A1 l.length c1, .int .i64 1048576] rfl (by simp only [List.map_toArray, List.map_cons, List.map_nil]; kernel_rfl) ?_; refine (szSc_yes (w := _) (Kd.C_below HCP1.out.1 (HC.out.step HB0.out).below) HCc1.out hlen1).mono ?_; rintro e w1 ⟨rfl, hb⟩; refine ⟨_, rfl, ?_⟩; have HB2 := Lib.hid (HB0.out.trans (hb.mono HB0.out.size)); clear HB0; clear hb)
    | ((with_reducible refine gate_dst (N := 14) rfl ?_); refine wpList_load_blk rfl 27 (.tmp 2) rfl (w.heap.size) 0 (by kernel_rfl) F.vals _ ((HC.out.step HB2.out).blk (w.heap.size, F.vals, 27) (List.Mem.head _)) (by rw [List.drop_zero, List.take_length]) Try.underlying27 rfl (by rw [hF.out.len]; kernel_rfl) ?_)
    | ((with_reducible refine gate_dst (N := 15) rfl ?_); refine goesL_ (some 15) rfl rfl Try.func11 (by kernel_rfl) rfl #[.agg F.vals.toArray] rfl (by simp only [List.map_toArray, List.map_cons, List.map_nil]; kernel_rfl) ?_; refine (toField_any F hF.out _).mono ?_; rintro e w3 ⟨rfl, hb⟩; refine ⟨_, rfl, ?_⟩; have HB4 := Lib.hid (HB2.out.trans (hb.mono HB2.out.size)); clear HB2; clear hb)
    | ((with_reducible refine gate_dst (N := 17) rfl ?_); refine goesL_ (some 17) rfl rfl Try.func12 (by kernel_rfl) rfl #[.slice A1 l.length c1] rfl (by simp only [List.map_toArray, List.map_cons, List.map_nil]; kernel_rfl) ?_; refine (HTO.out _ _ _ (Kd.C_below HCP1.out.1 (HC.out.step HB4.out).below) HCc1.out).mono ?_; rintro e w5 ⟨vv, rfl, hm, hb⟩; refine ⟨_, rfl, ?_⟩; obtain ⟨AX1, cX1, hv⟩ := Kd.R_slice hm; subst hv; have H6 := Lib.hid (ow_new (d := PAll.k61) rfl hm HB4.out); have HB7 := Lib.hid (HB4.out.trans (hb.mono HB4.out.size)); clear HB4; clear hm hb)
    | ((with_reducible refine gate_dst (N := 18) rfl ?_); refine goesL_ (some 18) rfl rfl Try.func10 (by kernel_rfl) rfl #[.agg F.vals.toArray, .slice AX1 ys.length cX1] rfl (by simp only [List.map_toArray, List.map_cons, List.map_nil]; kernel_rfl) ?_; refine (HSp.out _ _ _ (ow_C H6.out) (ow_cap H6.out)).mono ?_; rintro e w8 ⟨rfl, hb⟩; refine ⟨_, rfl, ?_⟩; have HB9 := Lib.hid (HB7.out.trans (hb.mono HB7.out.size)); clear HB7; have H10 := Lib.hid (ow_below H6.out hb); clear H6; clear hb)
    | ((with_reducible refine gate_dst (N := 20) rfl ?_); refine goesL_ (some 20) rfl rfl Try.func12 (by kernel_rfl) rfl #[.slice A1 l.length c1] rfl (by simp only [List.map_toArray, List.map_cons, List.map_nil]; kernel_rfl) ?_; refine (HTO.out _ _ _ (Kd.C_below HCP1.out.1 (HC.out.step HB9.out).below) HCc1.out).mono ?_; rintro e w11 ⟨vv, rfl, hm, hb⟩; refine ⟨_, rfl, ?_⟩; obtain ⟨AX3, cX3, hv⟩ := Kd.R_slice hm; subst hv; have H12 := Lib.hid (ow_new (d := PAll.k61) rfl hm HB9.out); have HA13 := Lib.hid (apart_new hm H10.out).1; have HA14 := Lib.hid (apart_new hm H10.out).2; have HB15 := Lib.hid (HB9.out.trans (hb.mono HB9.out.size)); clear HB9; have H16 := Lib.hid (ow_below H10.out hb); clear H10; clear hm hb)
    | ((with_reducible refine gate_dst (N := 21) rfl ?_); refine wpList_load_blk rfl 27 (.tmp 2) rfl (w.heap.size) 0 (by kernel_rfl) F.vals _ ((HC.out.step HB15.out).blk (w.heap.size, F.vals, 27) (List.Mem.head _)) (by rw [List.drop_zero, List.take_length]) Try.underlying27 rfl (by rw [hF.out.len]; kernel_rfl) ?_)
    | ((with_reducible refine gate_dst (N := 22) rfl ?_); refine goesL_ (some 22) rfl rfl Try.func11 (by kernel_rfl) rfl #[.agg F.vals.toArray] rfl (by simp only [List.map_toArray, List.map_cons, List.map_nil]; kernel_rfl) ?_; refine (toField_any F hF.out _).mono ?_; rintro e w17 ⟨rfl, hb⟩; refine ⟨_, rfl, ?_⟩; have HB18 := Lib.hid (HB15.out.trans (hb.mono HB15.out.size)); clear HB15; have H19 := Lib.hid (ow_below H16.out hb); clear H16; have H20 := Lib.hid (ow_below H12.out hb); clear H12; clear hb)
    | ((with_reducible refine gate_dst (N := 24) rfl ?_); refine goesL_ (some 24) rfl rfl Try.func13 (by kernel_rfl) rfl #[.agg F.vals.toArray, .slice AX3 ys.length cX3] rfl (by simp only [List.map_toArray, List.map_cons, List.map_nil]; kernel_rfl) ?_; refine (HIm.out _ _ _ (ow_C H20.out) (ow_cap H20.out)).mono ?_; rintro e w21 ⟨rfl, hb⟩; refine ⟨_, rfl, ?_⟩; have HB22 := Lib.hid (HB18.out.trans (hb.mono HB18.out.size)); clear HB18; have H23 := Lib.hid (ow_below H19.out hb); clear H19; have H24 := Lib.hid (ow_below H20.out hb); clear H20; clear hb)
    | ((with_reducible refine gate_dst (N := 30) rfl ?_); refine goesL_ (some 30) rfl rfl Try.func12 (by kernel_rfl) rfl #[.slice A1 l.length c1] rfl (by simp only [List.map_toArray, List.map_cons, List.map_nil]; kernel_rfl) ?_; refine (HTO.out _ _ _ (Kd.C_below HCP1.out.1 (HC.out.step HB22.out).below) HCc1.out).mono ?_; rintro e w25 ⟨vv, rfl, hm, hb⟩; refine ⟨_, rfl, ?_⟩; obtain ⟨AX5, cX5, hv⟩ := Kd.R_slice hm; subst hv; have H26 := Lib.hid (ow_new (d := PAll.k61) rfl hm HB22.out); have HA27 := Lib.hid (apart_new hm H23.out).1; have HA28 := Lib.hid (apart_new hm H23.out).2; have HA29 := Lib.hid (apart_new hm H24.out).1; have HA30 := Lib.hid (apart_new hm H24.out).2; have HB31 := Lib.hid (HB22.out.trans (hb.mono HB22.out.size)); clear HB22; have H32 := Lib.hid (ow_below H23.out hb); clear H23; have H33 := Lib.hid (ow_below H24.out hb); clear H24; clear hm hb)
    | ((with_reducible refine gate_dst (N := 31) rfl ?_); refine goesL_ (some 31) rfl rfl Try.func14 (by kernel_rfl) rfl #[.slice AX3 ys.length cX3, .slice AX5 ys.length cX5] rfl (by simp only [List.map_toArray, List.map_cons, List.map_nil]; kernel_rfl) ?_; refine (eqO_Scarecrow H33.out H26.out HLM.out).mono ?_; rintro e w34 ⟨rfl, hb⟩; refine ⟨_, rfl, ?_⟩; have HB35 := Lib.hid (HB31.out.trans (hb.mono HB31.out.size)); clear HB31; have H36 := Lib.hid (ow_below H32.out hb); clear H32; have H37 := Lib.hid (ow_below H33.out hb); clear H33; have H38 := Lib.hid (ow_below H26.out hb); clear H26; clear hb))
  go_ret
  exact ⟨rfl, (HC.out.step HB35.out).below⟩

end Go.Proofs.Ytndhmcjcnmiobaa.LValidScares
