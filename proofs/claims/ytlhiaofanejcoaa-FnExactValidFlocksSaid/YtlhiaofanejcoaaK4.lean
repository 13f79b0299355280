/- HungerOf, by the program and by the reference: the same. No condition but that the numbers are within their kinds. -/
import Derived.Test.YtlhiaofanejcoaaK3
import Derived.Test.YtlhiaofanejcoaaL3
namespace Go.Proofs.Ytlhiaofanejcoaa
open Go.RowKit Go.Proofs.YtlhiaofanejcoaaW.PrintWords Go.Proofs.YtlhiaofanejcoaaW.PrintLast Go.Proofs.YtlhiaofanejcoaaW.PrintMore Go.Proofs.Ytlhiaofanejcoaa.PAll
set_option linter.unusedSimpArgs false
set_option linter.unusedVariables false

def hungry (x : S39) : Int := wrap64 (wrap64 x.f1 * wrap64 x.f2)
noncomputable def hungRes (F : Fld) (x : S39) : Int × Int := if (F.valid && flkOn F x) = true then (hungry x, 0) else (0, 1)
theorem isFlk {w0 w : World} {g : Nat} {x : S39} (h : Blk w g (flkVals x) 39) (hg : w0.heap.size ≤ g) : IsS39 w0 w g x.f0 x.f1 x.f2 x.f3 x.f4 x.f5 := ⟨h, hg⟩
theorem flkOn_one (F : Fld) (x : S39) : flksOn F [x] = flkOn F x := by
  have h : rd_T39 [x] ((0 : Nat) : Int) = x := rfl
  unfold flksOn allB
  simp only [List.length_singleton, List.range_one, List.all_cons, List.all_nil, Bool.and_true, h]
  simp
theorem flksOk_one {x : S39} (hx : FlkOk x) : FlksOk [x] := fun i hi => by
  obtain rfl : i = 0 := by simpa using hi
  exact hx

set_option maxHeartbeats 1000000 in
theorem iHunger_any (F : Fld) (hF : F.Ok) (x : S39) (hx : FlkOk x) (w : World) :
    Calls Try.prog 21 #[.agg F.vals.toArray, .agg (flkVals x).toArray] w fun e w' => e = .returned (.tuple #[.int .i64 (hungRes F x).1, .int .i64 (hungRes F x).2]) ∧ Below w.heap.size w w' := by
  have HO := Lib.hid hF
  have HX := Lib.hid hx
  clear hF hx
  go_enter Try.func21, Try.ntmps21
  go_upto_region 1 with (fail)
  obtain ⟨W, hW⟩ : ∃ W, W = (w.alloc (.cells F.vals.toArray 30)).alloc (.cells (flkVals x).toArray 39) := ⟨_, rfl⟩
  have HC := Lib.hid (boxed2 w F.vals (flkVals x) 30 39)
  rw [← hW] at HC ⊢
  clear hW
  cases hv : (F.valid && flkOn F x)
  · have HR : Hid (hungRes F x = (0, 1)) := Lib.hid (by unfold hungRes; rw [if_neg (by rw [hv]; decide)])
    have HV : Hid ((F.valid && flksOn F [x]) = false) := Lib.hid (by rw [flkOn_one]; exact hv)
    clear hv
    go_wp2_with (first
      | (with_reducible refine wpList_load_blk rfl 30 (.tmp 2) rfl _ 0 rfl F.vals _ (HC.out.blk (w.heap.size, F.vals, 30) (by simp)) (by rw [List.drop_zero, List.take_length]) Try.underlying30 rfl (by rw [HO.out.len]; kernel_rfl) ?_)
      | (with_reducible refine wpList_load_blk rfl 39 (.tmp 3) rfl _ 0 rfl (flkVals x) _ (HC.out.blk (w.heap.size + 1, flkVals x, 39) (by simp)) rfl Try.underlying39 rfl (by kernel_rfl) ?_)
      | ((with_reducible refine gate_dst (N := 8) rfl ?_); refine Kd.R_lit k39 (w0 := W) _ 39 ?hg (N := 8) ?hd (xs := [x]) (inner := flkVals x) (ok := fun _ => True) (okp := fun _ => True) ?hr ?hp (fun _ hk => hk) trivial (Below.refl _ _) (Nat.le_refl _) (by simp) ?_; (case hd => rfl); (case hg => rfl); (case hr => first | (go_simp; done) | (go_simp; rfl)); (case hp => exact (Reps.none _ _).snoc (k39_mkM _ _ _ x) rfl); intro v1 w1 ho1 hb1 hg1 hn1; clear hg1 hn1; obtain ⟨A, c, rfl, hle, hC⟩ := Kd.R_reads ho1; have HR1 := Lib.hid hC; have HC1 := Lib.hid (HC.out.step hb1); clear ho1 hb1 hC hle)
      | (go_at_call 37; refine (iValidFlocks_any F HO.out [x] (flksOk_one HX.out) A _ _ HR1.out).mono ?_; rintro e w2 ⟨rfl, hb⟩; rw [HV.out]; have HC2 := Lib.hid (HC1.out.step hb); clear hb))
    go_ret2
    exact ⟨by rw [HR.out]; rfl, HC2.out.below⟩
  · have HR : Hid (hungRes F x = (hungry x, 0)) := Lib.hid (by unfold hungRes; rw [if_pos hv])
    have HV : Hid ((F.valid && flksOn F [x]) = true) := Lib.hid (by rw [flkOn_one]; exact hv)
    clear hv
    go_upto_region 3 with (first
      | (with_reducible refine wpList_load_blk rfl 30 (.tmp 2) rfl _ 0 rfl F.vals _ (HC.out.blk (w.heap.size, F.vals, 30) (by simp)) (by rw [List.drop_zero, List.take_length]) Try.underlying30 rfl (by rw [HO.out.len]; kernel_rfl) ?_)
      | (with_reducible refine wpList_load_blk rfl 39 (.tmp 3) rfl _ 0 rfl (flkVals x) _ (HC.out.blk (w.heap.size + 1, flkVals x, 39) (by simp)) rfl Try.underlying39 rfl (by kernel_rfl) ?_)
      | ((with_reducible refine gate_dst (N := 8) rfl ?_); refine Kd.R_lit k39 (w0 := W) _ 39 ?hg (N := 8) ?hd (xs := [x]) (inner := flkVals x) (ok := fun _ => True) (okp := fun _ => True) ?hr ?hp (fun _ hk => hk) trivial (Below.refl _ _) (Nat.le_refl _) (by simp) ?_; (case hd => rfl); (case hg => rfl); (case hr => first | (go_simp; done) | (go_simp; rfl)); (case hp => exact (Reps.none _ _).snoc (k39_mkM _ _ _ x) rfl); intro v1 w1 ho1 hb1 hg1 hn1; clear hg1 hn1; obtain ⟨A, c, rfl, hle, hC⟩ := Kd.R_reads ho1; have HR1 := Lib.hid hC; have HC1 := Lib.hid (HC.out.step hb1); clear ho1 hb1 hC hle)
      | (go_at_call 37; refine (iValidFlocks_any F HO.out [x] (flksOk_one HX.out) A _ _ HR1.out).mono ?_; rintro e w2 ⟨rfl, hb⟩; rw [HV.out]; have HC2 := Lib.hid (HC1.out.step hb); clear hb))
    go_wp2_with (first
      | (go_at_call 63; refine (impl_Flock_hunger.calls (w.heap.size + 1) x.f0 x.f1 x.f2 x.f3 x.f4 x.f5 _ _ _ _ _ _ _ w _ (isFlk (HC2.out.blk (w.heap.size + 1, flkVals x, 39) (by simp)) (by omega)) HC2.out.below rfl).mono ?_; rintro e w3 ⟨rfl, _, hb, _⟩; have HB3 := Lib.hid hb; clear hb))
    go_ret2
    exact ⟨by rw [HR.out]; rfl, HB3.out⟩

set_option maxHeartbeats 1000000 in
theorem sHunger_any (F : Fld) (hF : F.Ok) (x : S39) (hx : FlkOk x) (w : World) :
    Calls Try.prog 19 #[.agg F.vals.toArray, .agg (flkVals x).toArray] w fun e w' => e = .returned (.tuple #[.int .i64 (hungRes F x).1, .int .i64 (hungRes F x).2]) ∧ Below w.heap.size w w' := by
  have HO := Lib.hid hF
  have HX := Lib.hid hx
  clear hF hx
  go_enter Try.func19, Try.ntmps19
  go_upto_region 1 with (fail)
  obtain ⟨W, hW⟩ : ∃ W, W = (w.alloc (.cells F.vals.toArray 30)).alloc (.cells (flkVals x).toArray 39) := ⟨_, rfl⟩
  have HC := Lib.hid (boxed2 w F.vals (flkVals x) 30 39)
  rw [← hW] at HC ⊢
  clear hW
  cases hv : F.valid
  · have HR : Hid (hungRes F x = (0, 1)) := Lib.hid (by unfold hungRes; rw [if_neg (by rw [hv]; simp)])
    have HV := Lib.hid hv
    clear hv
    go_wp2_with (go_at_call 60; (with_reducible refine (l01Ok_any F HO.out _ _ (HC.out.blk (w.heap.size, F.vals, 30) (by simp))).mono ?_); rintro e w1 ⟨rfl, rfl⟩; rw [HV.out])
    go_ret2
    exact ⟨by rw [HR.out]; rfl, HC.out.below⟩
  · have HV := Lib.hid hv
    cases ho : flkOn F x
    · have HR : Hid (hungRes F x = (0, 1)) := Lib.hid (by unfold hungRes; rw [if_neg (by rw [hv, ho]; simp)])
      have HN := Lib.hid ho
      clear hv ho
      go_wp2_with (first
        | (go_at_call 60; (with_reducible refine (l01Ok_any F HO.out _ _ (HC.out.blk (w.heap.size, F.vals, 30) (by simp))).mono ?_); rintro e w1 ⟨rfl, rfl⟩; rw [HV.out])
        | (go_at_call 61; refine (l02Flock_any F HO.out x HX.out _ _ _ (HC.out.blk (w.heap.size, F.vals, 30) (by simp)) (FlkAt.blk (HC.out.blk (w.heap.size + 1, flkVals x, 39) (by simp)))).mono ?_; rintro e w' ⟨rfl, rfl⟩; rw [HN.out]))
      go_ret2
      exact ⟨by rw [HR.out]; rfl, HC.out.below⟩
    · have HR : Hid (hungRes F x = (hungry x, 0)) := Lib.hid (by unfold hungRes; rw [if_pos (by rw [hv, ho]; rfl)])
      have HN := Lib.hid ho
      clear hv ho
      go_wp2_with (first
        | (go_at_call 60; (with_reducible refine (l01Ok_any F HO.out _ _ (HC.out.blk (w.heap.size, F.vals, 30) (by simp))).mono ?_); rintro e w1 ⟨rfl, rfl⟩; rw [HV.out])
        | (go_at_call 61; refine (l02Flock_any F HO.out x HX.out _ _ _ (HC.out.blk (w.heap.size, F.vals, 30) (by simp)) (FlkAt.blk (HC.out.blk (w.heap.size + 1, flkVals x, 39) (by simp)))).mono ?_; rintro e w' ⟨rfl, rfl⟩; rw [HN.out])
        | (go_at_call 62; refine (spec_l02Hunger.calls (w.heap.size + 1) x.f0 x.f1 x.f2 x.f3 x.f4 x.f5 _ _ _ _ _ _ _ w _ (isFlk (HC.out.blk (w.heap.size + 1, flkVals x, 39) (by simp)) (by omega)) HC.out.below rfl).mono ?_; rintro e w3 ⟨rfl, _, hb, _⟩; have HB3 := Lib.hid hb; clear hb))
      go_ret2
      exact ⟨by rw [HR.out]; rfl, HB3.out⟩
end Go.Proofs.Ytlhiaofanejcoaa
