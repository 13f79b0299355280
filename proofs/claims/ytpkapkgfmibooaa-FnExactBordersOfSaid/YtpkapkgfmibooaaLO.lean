/- LossByOwner, by the program and by the reference: the same. No condition but that the numbers are within their kinds. -/
import Derived.Test.YtpkapkgfmibooaaLB
import Derived.Test.YtpkapkgfmibooaaGB
namespace Go.Proofs.Ytpkapkgfmibooaa
open Go.RowKit Go.Proofs.YtpkapkgfmibooaaW.PrintWords Go.Proofs.YtpkapkgfmibooaaW.PrintLast Go.Proofs.YtpkapkgfmibooaaW.PrintMore
set_option linter.unusedSimpArgs false
set_option linter.unusedVariables false

/-- The code of two fields and owners. -/
noncomputable def ownCode (F G : Fld) (os : List Int) : Int := if (F.valid && ownAll F os) = true then pairCode F G else 1
theorem ownCode_yes {F G : Fld} {os : List Int} (h : (F.valid && ownAll F os) = true) : ownCode F G os = pairCode F G := by unfold ownCode; rw [if_pos h]
theorem ownCode_no {F G : Fld} {os : List Int} (h : (F.valid && ownAll F os) = false) : ownCode F G os = 1 := by unfold ownCode; rw [if_neg (by rw [h]; decide)]
theorem ownCode_zero {F G : Fld} {os : List Int} (h : ownCode F G os = 0) : ownAll F os = true := by
  cases hv : (F.valid && ownAll F os)
  · rw [ownCode_no hv] at h
    cases h
  · rw [Bool.and_eq_true] at hv
    exact hv.2


set_option maxRecDepth 100000 in
set_option maxHeartbeats 4000000 in
theorem ownersCode_any (F G : Fld) (hF : F.Ok) (hG : G.Ok) (os : List Int) (hs : OsOk os) (b c d : Nat) (w : World) (hf : IsF w b F) (hg : IsF w c G) (hd : Blk w d (vrow .i8 os) 34) :
    Calls Try.prog 44 #[.pointer (some ⟨b, 0, none⟩), .pointer (some ⟨c, 0, none⟩), .pointer (some ⟨d, 0, none⟩)] w fun e w' => e = .returned (.int .i64 (ownCode F G os)) ∧ Below w.heap.size w w' := by
  have HO := Lib.hid hF
  have HP := Lib.hid hG
  have HF := Lib.hid hf
  have HG := Lib.hid hg
  have HD := Lib.hid hd
  have HS := Lib.hid hs
  have hfl := hf.lt
  have hgl := hg.lt
  have hdl := hd.lt
  clear hF hG hf hg hd hs
  cases hv : (F.valid && ownAll F os)
  · have HV := Lib.hid hv
    have HR := Lib.hid (ownCode_no (G := G) hv)
    clear hv
    go_enter Try.func44, Try.ntmps44
    go_upto_region 1 with (fail)
    refine la_start (S := fun w' => Below w.heap.size w w') (n := 8) #[false, false, false, false, false, false, false, false] (by kernel_rfl) (by kernel_rfl) (below_drewN (Below.refl _ _) 1) (fun _ _ _ _ hd h => ⟨hd.symm.trans h.1, h.2⟩) (fun hPB => ?_)
    have HB0 : Hid (Below w.heap.size w { w with drawn := w.drawn + 1 }) := Lib.hid (below_drewN (Below.refl _ _) 1)
    refine la_auto (i := 0) #[true, false, false, false, false, false, false, false] rfl (by kernel_rfl) hPB (fun K hK => ?_)
    go_simp
    refine hK _ ?_
    clear hK K
    refine la_auto (i := 1) #[true, true, false, false, false, false, false, false] rfl (by kernel_rfl) hPB (fun K hK => ?_)
    go_simp
    refine hK _ ?_
    clear hK K
    refine la_load (i := 2) #[true, true, true, false, false, false, false, false] (some 9) rfl rfl (by kernel_rfl) hPB rfl 32 (.tmp 8) rfl b 0 (by kernel_rfl) F.vals _ (fun w1 h1 => HF.out.below h1 hfl) (by rw [List.drop_zero, List.take_length]) Try.underlying32 rfl (by rw [HO.out.len]; kernel_rfl) HB0.out ?_
    simp only [Act.put, List.setIfInBounds_toArray, List.set_cons_zero, List.set_cons_succ]
    refine la_auto (i := 3) #[true, true, true, true, false, false, false, false] rfl (by kernel_rfl) hPB (fun K hK => ?_)
    go_simp
    refine hK _ ?_
    clear hK K
    refine la_auto (i := 4) #[true, true, true, true, true, false, false, false] rfl (by kernel_rfl) hPB (fun K hK => ?_)
    go_simp
    refine hK _ ?_
    clear hK K
    refine la_load (i := 5) #[true, true, true, true, true, true, false, false] (some 12) rfl rfl (by kernel_rfl) hPB rfl 34 (.tmp 11) rfl d 0 (by kernel_rfl) (vrow .i8 os) _ (fun w1 h1 => HD.out.below h1 hdl) (by rw [List.drop_zero, List.take_length]) Try.underlying34 rfl (by rw [vrow_len, HS.out.len]; kernel_rfl) HB0.out ?_
    simp only [Act.put, List.setIfInBounds_toArray, List.set_cons_zero, List.set_cons_succ]
    refine la_call (i := 6) #[true, true, true, true, true, true, true, false] (some 13) rfl rfl (by kernel_rfl) (by kernel_rfl) Try.func38 (by kernel_rfl) rfl #[.agg F.vals.toArray, .agg (vrow .i8 os).toArray] rfl (by simp only [List.map_toArray, List.map_cons, List.map_nil]; kernel_rfl) ?_
    refine (iValidOwners_any F HO.out os HS.out _).mono ?_
    rintro e w1 ⟨rfl, hb⟩
    have HB1 := Lib.hid (HB0.out.trans (hb.mono HB0.out.size))
    clear hb
    refine ⟨_, rfl, HB1.out, ?_⟩
    simp only [Act.put, List.setIfInBounds_toArray, List.set_cons_zero, List.set_cons_succ]
    rw [HV.out]
    refine la_auto (i := 7) #[true, true, true, true, true, true, true, true] rfl (by kernel_rfl) hPB (fun K hK => ?_)
    go_simp
    refine hK _ ?_
    clear hK K
    refine la_done (by kernel_rfl) ?_
    clear hPB
    go_wp2
    go_ret
    exact ⟨ret_i64 HR.out.symm, HB1.out⟩
  · have HV := Lib.hid hv
    have HR := Lib.hid (ownCode_yes (G := G) hv)
    clear hv
    go_enter Try.func44, Try.ntmps44
    go_upto_region 1 with (fail)
    refine la_start (S := fun w' => Below w.heap.size w w') (n := 8) #[false, false, false, false, false, false, false, false] (by kernel_rfl) (by kernel_rfl) (below_drewN (Below.refl _ _) 1) (fun _ _ _ _ hd h => ⟨hd.symm.trans h.1, h.2⟩) (fun hPB => ?_)
    have HB0 : Hid (Below w.heap.size w { w with drawn := w.drawn + 1 }) := Lib.hid (below_drewN (Below.refl _ _) 1)
    refine la_auto (i := 0) #[true, false, false, false, false, false, false, false] rfl (by kernel_rfl) hPB (fun K hK => ?_)
    go_simp
    refine hK _ ?_
    clear hK K
    refine la_auto (i := 1) #[true, true, false, false, false, false, false, false] rfl (by kernel_rfl) hPB (fun K hK => ?_)
    go_simp
    refine hK _ ?_
    clear hK K
    refine la_load (i := 2) #[true, true, true, false, false, false, false, false] (some 9) rfl rfl (by kernel_rfl) hPB rfl 32 (.tmp 8) rfl b 0 (by kernel_rfl) F.vals _ (fun w1 h1 => HF.out.below h1 hfl) (by rw [List.drop_zero, List.take_length]) Try.underlying32 rfl (by rw [HO.out.len]; kernel_rfl) HB0.out ?_
    simp only [Act.put, List.setIfInBounds_toArray, List.set_cons_zero, List.set_cons_succ]
    refine la_auto (i := 3) #[true, true, true, true, false, false, false, false] rfl (by kernel_rfl) hPB (fun K hK => ?_)
    go_simp
    refine hK _ ?_
    clear hK K
    refine la_auto (i := 4) #[true, true, true, true, true, false, false, false] rfl (by kernel_rfl) hPB (fun K hK => ?_)
    go_simp
    refine hK _ ?_
    clear hK K
    refine la_load (i := 5) #[true, true, true, true, true, true, false, false] (some 12) rfl rfl (by kernel_rfl) hPB rfl 34 (.tmp 11) rfl d 0 (by kernel_rfl) (vrow .i8 os) _ (fun w1 h1 => HD.out.below h1 hdl) (by rw [List.drop_zero, List.take_length]) Try.underlying34 rfl (by rw [vrow_len, HS.out.len]; kernel_rfl) HB0.out ?_
    simp only [Act.put, List.setIfInBounds_toArray, List.set_cons_zero, List.set_cons_succ]
    refine la_call (i := 6) #[true, true, true, true, true, true, true, false] (some 13) rfl rfl (by kernel_rfl) (by kernel_rfl) Try.func38 (by kernel_rfl) rfl #[.agg F.vals.toArray, .agg (vrow .i8 os).toArray] rfl (by simp only [List.map_toArray, List.map_cons, List.map_nil]; kernel_rfl) ?_
    refine (iValidOwners_any F HO.out os HS.out _).mono ?_
    rintro e w1 ⟨rfl, hb⟩
    have HB1 := Lib.hid (HB0.out.trans (hb.mono HB0.out.size))
    clear hb
    refine ⟨_, rfl, HB1.out, ?_⟩
    simp only [Act.put, List.setIfInBounds_toArray, List.set_cons_zero, List.set_cons_succ]
    rw [HV.out]
    refine la_auto (i := 7) #[true, true, true, true, true, true, true, true] rfl (by kernel_rfl) hPB (fun K hK => ?_)
    go_simp
    refine hK _ ?_
    clear hK K
    refine la_done (by kernel_rfl) ?_
    clear hPB
    go_wp2_with (go_at_call 67; refine (lossCode_any F G HO.out HP.out b c _ (HF.out.below HB1.out hfl) (HG.out.below HB1.out hgl)).mono ?_; rintro e w2 ⟨rfl, hb⟩; have HB2 := Lib.hid (HB1.out.trans (hb.mono HB1.out.size)); clear hb)
    go_ret
    exact ⟨ret_i64 HR.out.symm, HB2.out⟩


set_option maxHeartbeats 4000000 in
theorem l06Owned_any (F G : Fld) (hF : F.Ok) (hG : G.Ok) (os : List Int) (hs : OsOk os) (b c d : Nat) (w : World) (hf : IsF w b F) (hg : IsF w c G) (hd : Blk w d (vrow .i8 os) 34) :
    Calls Try.prog 42 #[.pointer (some ⟨b, 0, none⟩), .pointer (some ⟨c, 0, none⟩), .pointer (some ⟨d, 0, none⟩)] w fun e w' => e = .returned (.int .i64 (ownCode F G os)) ∧ Below w.heap.size w w' := by
  have HO := Lib.hid hF
  have HP := Lib.hid hG
  have HF := Lib.hid hf
  have HG := Lib.hid hg
  have HD := Lib.hid hd
  have HS := Lib.hid hs
  have hfl := hf.lt
  have hgl := hg.lt
  have hdl := hd.lt
  clear hF hG hf hg hd hs
  cases hv : (F.valid && ownAll F os)
  all_goals
    have HV := Lib.hid hv
    go_enter Try.func42, Try.ntmps42
    go_wp2_with (first
      | (go_at_call 65; refine (l06Pair_any F G HO.out HP.out b c _ HF.out HG.out).mono ?_; rintro e w1 ⟨rfl, hb⟩; have HB1 := Lib.hid hb; clear hb)
      | (go_at_call 33; refine (l06Owners_any F HO.out os HS.out b d _ (HF.out.below HB1.out hfl) (HD.out.below HB1.out hdl)).mono ?_; rintro e w2 ⟨rfl, rfl⟩; rw [HV.out]))
    go_ret
    first
    | exact ⟨ret_i64 (ownCode_no hv).symm, HB1.out⟩
    | exact ⟨ret_i64 (ownCode_yes hv).symm, HB1.out⟩


/-- The losses of all owners, and the code. -/
noncomputable def lbRes (F G : Fld) (os : List Int) : List Int × Int := if ownCode F G os = 0 then (byRes F G os, 0) else ([], ownCode F G os)
theorem lbRes_len (F G : Fld) (os : List Int) : (lbRes F G os).1.length ≤ 1048576 := by
  unfold lbRes
  split
  · show (byRes F G os).length ≤ _
    unfold byRes
    rw [byTo_len]
    omega
  · simp
set_option maxHeartbeats 4000000 in
theorem iLossByOwner_any (F G : Fld) (hF : F.Ok) (hG : G.Ok) (os : List Int) (hs : OsOk os) (w : World) :
    Calls Try.prog 17 #[.agg F.vals.toArray, .agg G.vals.toArray, .agg (vrow .i8 os).toArray] w fun e w' => ∃ v : Value, e = .returned (.tuple #[v, .int .i64 (lbRes F G os).2]) ∧ Made w w' (lbRes F G os).1 v ∧ Below w.heap.size w w' := by
  have HO := Lib.hid hF
  have HP := Lib.hid hG
  have HS := Lib.hid hs
  clear hF hG hs
  go_enter Try.func17, Try.ntmps17
  go_upto_region 1 with (fail)
  obtain ⟨W, hW⟩ : ∃ W, W = ((w.alloc (.cells F.vals.toArray 32)).alloc (.cells G.vals.toArray 32)).alloc (.cells (vrow .i8 os).toArray 34) := ⟨_, rfl⟩
  have HC := Lib.hid (boxed3 w F.vals G.vals (vrow .i8 os) 32 32 34)
  rw [← hW] at HC ⊢
  clear hW
  by_cases hq : ownCode F G os = 0
  · have HQ := Lib.hid hq
    have HOA := Lib.hid (ownCode_zero hq)
    have HR : Hid (lbRes F G os = (byRes F G os, 0)) := Lib.hid (by unfold lbRes; rw [if_pos hq])
    clear hq
    go_wp2_with (first
      | (go_at_call 44; refine (ownersCode_any F G HO.out HP.out os HS.out _ _ _ _ (HC.out.blk (w.heap.size, F.vals, 32) (by simp)) (HC.out.blk (w.heap.size + 1, G.vals, 32) (by simp)) (HC.out.blk (w.heap.size + 1 + 1, vrow .i8 os, 34) (by simp))).mono ?_; rintro e w2 ⟨rfl, hb⟩; rw [HQ.out]; have HC1 := Lib.hid (HC.out.step hb); clear hb)
      | (go_at_call 45; refine (byOwner_any F G HO.out HP.out os HS.out HOA.out _ _ _ _ (HC1.out.blk (w.heap.size, F.vals, 32) (by simp)) (HC1.out.blk (w.heap.size + 1, G.vals, 32) (by simp)) (HC1.out.blk (w.heap.size + 1 + 1, vrow .i8 os, 34) (by simp))).mono ?_; rintro e w3 ⟨v3, rfl, hm, hb⟩; have HM := Lib.hid (Kd.R_lower hm HC1.out.below.size); have HC2 := Lib.hid (HC1.out.step hb); clear hb hm))
    go_ret2
    exact ⟨v3, by rw [HR.out]; rfl, by rw [HR.out]; exact HM.out, HC2.out.below⟩
  · have HR : Hid (lbRes F G os = ([], ownCode F G os)) := Lib.hid (by unfold lbRes; rw [if_neg hq])
    have hq' : (ownCode F G os != 0) = true := by simpa using hq
    go_wp2_with (first
      | (go_at_call 44; refine (ownersCode_any F G HO.out HP.out os HS.out _ _ _ _ (HC.out.blk (w.heap.size, F.vals, 32) (by simp)) (HC.out.blk (w.heap.size + 1, G.vals, 32) (by simp)) (HC.out.blk (w.heap.size + 1 + 1, vrow .i8 os, 34) (by simp))).mono ?_; rintro e w2 ⟨rfl, hb⟩; have HC1 := Lib.hid (HC.out.step hb); clear hb))
    go_ret2
    exact ⟨.slice none 0 0, by rw [HR.out]; rfl, by rw [HR.out]; exact Kd.R_nil _ _ _ _ _, HC1.out.below⟩
set_option maxHeartbeats 4000000 in
theorem sLossByOwner_any (F G : Fld) (hF : F.Ok) (hG : G.Ok) (os : List Int) (hs : OsOk os) (w : World) :
    Calls Try.prog 16 #[.agg F.vals.toArray, .agg G.vals.toArray, .agg (vrow .i8 os).toArray] w fun e w' => ∃ v : Value, e = .returned (.tuple #[v, .int .i64 (lbRes F G os).2]) ∧ Made w w' (lbRes F G os).1 v ∧ Below w.heap.size w w' := by
  have HO := Lib.hid hF
  have HP := Lib.hid hG
  have HS := Lib.hid hs
  clear hF hG hs
  go_enter Try.func16, Try.ntmps16
  go_upto_region 1 with (fail)
  obtain ⟨W, hW⟩ : ∃ W, W = ((w.alloc (.cells F.vals.toArray 32)).alloc (.cells G.vals.toArray 32)).alloc (.cells (vrow .i8 os).toArray 34) := ⟨_, rfl⟩
  have HC := Lib.hid (boxed3 w F.vals G.vals (vrow .i8 os) 32 32 34)
  rw [← hW] at HC ⊢
  clear hW
  by_cases hq : ownCode F G os = 0
  · have HQ := Lib.hid hq
    have HOA := Lib.hid (ownCode_zero hq)
    have HR : Hid (lbRes F G os = (byRes F G os, 0)) := Lib.hid (by unfold lbRes; rw [if_pos hq])
    clear hq
    go_wp2_with (first
      | (go_at_call 42; refine (l06Owned_any F G HO.out HP.out os HS.out _ _ _ _ (HC.out.blk (w.heap.size, F.vals, 32) (by simp)) (HC.out.blk (w.heap.size + 1, G.vals, 32) (by simp)) (HC.out.blk (w.heap.size + 1 + 1, vrow .i8 os, 34) (by simp))).mono ?_; rintro e w2 ⟨rfl, hb⟩; rw [HQ.out]; have HC1 := Lib.hid (HC.out.step hb); clear hb)
      | (go_at_call 43; refine (sByOwner_any F G HO.out HP.out os HS.out HOA.out _ _ _ _ (HC1.out.blk (w.heap.size, F.vals, 32) (by simp)) (HC1.out.blk (w.heap.size + 1, G.vals, 32) (by simp)) (HC1.out.blk (w.heap.size + 1 + 1, vrow .i8 os, 34) (by simp))).mono ?_; rintro e w3 ⟨v3, rfl, hm, hb⟩; have HM := Lib.hid (Kd.R_lower hm HC1.out.below.size); have HC2 := Lib.hid (HC1.out.step hb); clear hb hm))
    go_ret2
    exact ⟨v3, by rw [HR.out]; rfl, by rw [HR.out]; exact HM.out, HC2.out.below⟩
  · have HR : Hid (lbRes F G os = ([], ownCode F G os)) := Lib.hid (by unfold lbRes; rw [if_neg hq])
    have hq' : (ownCode F G os != 0) = true := by simpa using hq
    go_wp2_with (first
      | (go_at_call 42; refine (l06Owned_any F G HO.out HP.out os HS.out _ _ _ _ (HC.out.blk (w.heap.size, F.vals, 32) (by simp)) (HC.out.blk (w.heap.size + 1, G.vals, 32) (by simp)) (HC.out.blk (w.heap.size + 1 + 1, vrow .i8 os, 34) (by simp))).mono ?_; rintro e w2 ⟨rfl, hb⟩; have HC1 := Lib.hid (HC.out.step hb); clear hb)
      | ((with_reducible refine gate_dst (N := 12) rfl ?_); refine Kd.R_lit (Kd.int .i64) (w0 := w) w.heap.size 2 ?hg (N := 12) ?hd (xs := ([] : List Int)) (inner := []) (ok := fun _ => True) (okp := fun _ => True) ?hr ?hp (fun _ hk => hk) trivial HC1.out.below (below_size HC1.out.below) (by simp) ?_; (case hd => rfl); (case hg => rfl); (case hr => first | (go_simp; done) | (go_simp; rfl)); (case hp => exact (Reps.none _ _)); intro v3 w3 ho1 hb1 hg1 hn1; clear hg1 hn1; have HR3 := Lib.hid ho1; have HB3 := Lib.hid hb1; clear ho1 hb1))
    go_ret2
    exact ⟨v3, by rw [HR.out]; rfl, by rw [HR.out]; exact HR3.out, HB3.out⟩

end Go.Proofs.Ytpkapkgfmibooaa
