/- The law FnExactGapOf, walked: the program and the reference answer the same. No condition. -/
import Derived.Test.YtmhkechkkpppaaaGB
import Derived.Test.YtmhkechkkpppaaaGC
import Derived.Test.YtmhkechkkpppaaaB2
import Derived.Test.YtmhkechkkpppaaaMkBeat
namespace Go.Proofs.Ytmhkechkkpppaaa.LGapOf
open Go.RowKit Go.Proofs.YtmhkechkkpppaaaW.PrintWords Go.Proofs.YtmhkechkkpppaaaW.PrintLast Go.Proofs.Ytmhkechkkpppaaa.PAll
set_option linter.unusedSimpArgs false
set_option linter.unusedVariables false

set_option maxRecDepth 100000 in
set_option maxHeartbeats 8000000 in
theorem walk (w : World) (cs0 : List Value) (i0 : R.Ints fldKinds cs0) (A1 : Option Addr) (c1 : Nat) (b : List Int) (hc1 : b.length ≤ c1) (hm1 : b.length ≤ maxLen) (hw1 : ∀ x ∈ b, (Lit.int .i16 x).wf = true) (hC1 : Kd.C (Kd.int .i16) w A1 b.length b) (s : Int) (ws : (Lit.int .i64 s).wf = true) (c : Int) (wc : (Lit.int .i64 c).wf = true) :
    Calls Try.prog 9 #[.agg cs0.toArray, .slice A1 b.length c1, .int .i64 s, .int .i64 c] w fun e w' => e = .returned (.bool true) ∧ Below w.heap.size w w' := by
  obtain ⟨F, hF', rfl⟩ := fld_of_ints i0
  have hF := Lib.hid hF'
  clear i0 hF'
  by_cases hlen1 : b.length ≤ 1048576
  case neg =>
    have hl1 : (1048576 : Int) < (b.length : Int) := by omega
    have hmm := hm1
    unfold maxLen at hmm
    clear hC1 hw1 hm1
    go_enter Try.func9, Try.ntmps9
    go_wp2
    go_ret
    exact ⟨rfl, (boxed1 w F.vals 27).below⟩
  have hbo' : BtOk b := btOk_of hw1
  have hbo := Lib.hid hbo'
  clear hbo'
  obtain ⟨V, hV⟩ : ∃ V, V = gwRes F b s c 1 := ⟨_, rfl⟩
  have HSp' := fun A n w1 hA hlc => sGapOf_any F hF.out b hbo.out s c A n w1 hA hlc
  have HIm' := fun A n w1 hA hlc => iGapOf_any F hF.out b hbo.out s c A n w1 hA hlc
  rw [← hV] at HSp' HIm'
  clear hV
  have HSp := Lib.hid HSp'
  clear HSp'
  have HIm := Lib.hid HIm'
  clear HIm'
  have hV0 : (V.1 != V.1) = false := by simp
  have hV1 : (V.2 != V.2) = false := by simp
  have HCP1 := Lib.hid hC1
  have HCc1 := Lib.hid hc1
  have hmm1p := hm1
  unfold maxLen at hmm1p
  clear hC1 hc1 hm1
  have HWf1 := Lib.hid hw1
  clear hw1
  go_enter Try.func9, Try.ntmps9
  go_upto_region 1 with (fail)
  obtain ⟨W, hW⟩ : ∃ W, W = w.alloc (.cells F.vals.toArray 27) := ⟨_, rfl⟩
  have HC := Lib.hid (boxed1 w F.vals 27)
  rw [← hW] at HC ⊢
  clear hW
  have HB0 := Lib.hid (Below.refl W.heap.size W)
  go_wp2_with (first
    | ((with_reducible refine gate_dst (N := 18) rfl ?_); refine wpList_load_blk rfl 27 (.tmp 4) rfl (w.heap.size) 0 (by kernel_rfl) F.vals _ ((HC.out.step HB0.out).blk (w.heap.size, F.vals, 27) (List.Mem.head _)) (by rw [List.drop_zero, List.take_length]) Try.underlying27 rfl (by rw [hF.out.len]; kernel_rfl) ?_)
    | ((with_reducible refine gate_dst (N := 19) rfl ?_); refine goesL_ (some 19) rfl rfl Try.func14 (by kernel_rfl) rfl #[.agg F.vals.toArray] rfl (by simp only [List.map_toArray, List.map_cons, List.map_nil]; kernel_rfl) ?_; refine (toField_any F hF.out _).mono ?_; rintro e w1 ⟨rfl, hb⟩; refine ⟨_, rfl, ?_⟩; have HB2 := Lib.hid (HB0.out.trans (hb.mono HB0.out.size)); clear HB0; clear hb)
    | ((with_reducible refine gate_dst (N := 21) rfl ?_); refine goesL_ (some 21) rfl rfl Try.func15 (by kernel_rfl) rfl #[.slice A1 b.length c1] rfl (by simp only [List.map_toArray, List.map_cons, List.map_nil]; kernel_rfl) ?_; refine (toBeat_any (w := _) b  (Kd.C_below HCP1.out (HC.out.step HB2.out).below) hlen1 HCc1.out).mono ?_; rintro e w3 ⟨vv, rfl, hm, hb⟩; refine ⟨_, rfl, ?_⟩; obtain ⟨AX1, cX1, hv⟩ := Kd.R_slice hm; subst hv; have H4 := Lib.hid (ow_new (d := (Kd.int .i16)) rfl hm HB2.out); have HB5 := Lib.hid (HB2.out.trans (hb.mono HB2.out.size)); clear HB2; clear hm hb)
    | ((with_reducible refine gate_dst (N := 24) rfl ?_); refine goesL_ (some 24) rfl rfl Try.func34 (by kernel_rfl) rfl #[.agg F.vals.toArray, .slice AX1 b.length cX1, .int .i64 s, .int .i64 c] rfl (by simp only [List.map_toArray, List.map_cons, List.map_nil]; kernel_rfl) ?_; refine (HSp.out _ _ _ (ow_C H4.out) (ow_cap H4.out)).mono ?_; rintro e w6 ⟨rfl, hb⟩; refine ⟨_, rfl, ?_⟩; have HB7 := Lib.hid (HB5.out.trans (hb.mono HB5.out.size)); clear HB5; have H8 := Lib.hid (ow_below H4.out hb); clear H4; clear hb)
    | ((with_reducible refine gate_dst (N := 28) rfl ?_); refine goesL_ (some 28) rfl rfl Try.func15 (by kernel_rfl) rfl #[.slice A1 b.length c1] rfl (by simp only [List.map_toArray, List.map_cons, List.map_nil]; kernel_rfl) ?_; refine (toBeat_any (w := _) b  (Kd.C_below HCP1.out (HC.out.step HB7.out).below) hlen1 HCc1.out).mono ?_; rintro e w9 ⟨vv, rfl, hm, hb⟩; refine ⟨_, rfl, ?_⟩; obtain ⟨AX3, cX3, hv⟩ := Kd.R_slice hm; subst hv; have H10 := Lib.hid (ow_new (d := (Kd.int .i16)) rfl hm HB7.out); have HA11 := Lib.hid (apart_new hm H8.out).1; have HA12 := Lib.hid (apart_new hm H8.out).2; have HB13 := Lib.hid (HB7.out.trans (hb.mono HB7.out.size)); clear HB7; have H14 := Lib.hid (ow_below H8.out hb); clear H8; clear hm hb)
    | ((with_reducible refine gate_dst (N := 30) rfl ?_); refine wpList_load_blk rfl 27 (.tmp 4) rfl (w.heap.size) 0 (by kernel_rfl) F.vals _ ((HC.out.step HB13.out).blk (w.heap.size, F.vals, 27) (List.Mem.head _)) (by rw [List.drop_zero, List.take_length]) Try.underlying27 rfl (by rw [hF.out.len]; kernel_rfl) ?_)
    | ((with_reducible refine gate_dst (N := 31) rfl ?_); refine goesL_ (some 31) rfl rfl Try.func14 (by kernel_rfl) rfl #[.agg F.vals.toArray] rfl (by simp only [List.map_toArray, List.map_cons, List.map_nil]; kernel_rfl) ?_; refine (toField_any F hF.out _).mono ?_; rintro e w15 ⟨rfl, hb⟩; refine ⟨_, rfl, ?_⟩; have HB16 := Lib.hid (HB13.out.trans (hb.mono HB13.out.size)); clear HB13; have H17 := Lib.hid (ow_below H14.out hb); clear H14; have H18 := Lib.hid (ow_below H10.out hb); clear H10; clear hb)
    | ((with_reducible refine gate_dst (N := 35) rfl ?_); refine goesL_ (some 35) rfl rfl Try.func35 (by kernel_rfl) rfl #[.agg F.vals.toArray, .slice AX3 b.length cX3, .int .i64 s, .int .i64 c] rfl (by simp only [List.map_toArray, List.map_cons, List.map_nil]; kernel_rfl) ?_; refine (HIm.out _ _ _ (ow_C H18.out) (ow_cap H18.out)).mono ?_; rintro e w19 ⟨rfl, hb⟩; refine ⟨_, rfl, ?_⟩; have HB20 := Lib.hid (HB16.out.trans (hb.mono HB16.out.size)); clear HB16; have H21 := Lib.hid (ow_below H17.out hb); clear H17; have H22 := Lib.hid (ow_below H18.out hb); clear H18; clear hb)
    | ((with_reducible refine gate_dst (N := 48) rfl ?_); refine goesL_ (some 48) rfl rfl Try.func15 (by kernel_rfl) rfl #[.slice A1 b.length c1] rfl (by simp only [List.map_toArray, List.map_cons, List.map_nil]; kernel_rfl) ?_; refine (toBeat_any (w := _) b  (Kd.C_below HCP1.out (HC.out.step HB20.out).below) hlen1 HCc1.out).mono ?_; rintro e w23 ⟨vv, rfl, hm, hb⟩; refine ⟨_, rfl, ?_⟩; obtain ⟨AX5, cX5, hv⟩ := Kd.R_slice hm; subst hv; have H24 := Lib.hid (ow_new (d := (Kd.int .i16)) rfl hm HB20.out); have HA25 := Lib.hid (apart_new hm H21.out).1; have HA26 := Lib.hid (apart_new hm H21.out).2; have HA27 := Lib.hid (apart_new hm H22.out).1; have HA28 := Lib.hid (apart_new hm H22.out).2; have HB29 := Lib.hid (HB20.out.trans (hb.mono HB20.out.size)); clear HB20; have H30 := Lib.hid (ow_below H21.out hb); clear H21; have H31 := Lib.hid (ow_below H22.out hb); clear H22; clear hm hb)
    | ((with_reducible refine gate_dst (N := 49) rfl ?_); refine goesL_ (some 49) rfl rfl Try.func17 (by kernel_rfl) rfl #[.slice AX3 b.length cX3, .slice AX5 b.length cX5] rfl (by simp only [List.map_toArray, List.map_cons, List.map_nil]; kernel_rfl) ?_; refine (eqO_Beat H31.out H24.out hlen1).mono ?_; rintro e w32 ⟨rfl, hb⟩; refine ⟨_, rfl, ?_⟩; have HB33 := Lib.hid (HB29.out.trans (hb.mono HB29.out.size)); clear HB29; have H34 := Lib.hid (ow_below H30.out hb); clear H30; have H35 := Lib.hid (ow_below H31.out hb); clear H31; have H36 := Lib.hid (ow_below H24.out hb); clear H24; clear hb))
  go_ret
  exact ⟨rfl, (HC.out.step HB33.out).below⟩

end Go.Proofs.Ytmhkechkkpppaaa.LGapOf
