/- An entry made in a field by the reference: the same. No condition but that the numbers are within their kinds, and that the field is valid. -/
import Derived.Test.YtlhiaofanejcoaaK5
namespace Go.Proofs.Ytlhiaofanejcoaa
open Go.RowKit Go.Proofs.YtlhiaofanejcoaaW.PrintWords Go.Proofs.YtlhiaofanejcoaaW.PrintLast Go.Proofs.YtlhiaofanejcoaaW.PrintMore Go.Proofs.Ytlhiaofanejcoaa.PAll
set_option linter.unusedSimpArgs false
set_option linter.unusedVariables false

set_option maxHeartbeats 4000000 in
theorem l07Apply_any (F : Fld) (hF : F.Ok) (hV : F.Valid) (x : S73) (hx : EntOk x) (g : Nat) (w : World) (hf : IsF w g F) :
    Calls Try.prog 81 #[.pointer (some ⟨g, 0, none⟩), .agg (entVals x).toArray] w fun e w' => e = .returned (.int .i64 (appCode F x)) ∧ IsF w' g (appF F x) ∧ Kept g w w' := by
  have HF := Lib.hid hf
  have HO := Lib.hid hF
  have HX := Lib.hid hx
  clear hf hF hx
  go_enter Try.func81, Try.ntmps81
  go_upto_region 1 with (fail)
  obtain ⟨W, hW⟩ : ∃ W, W = w.alloc (.cells (entVals x).toArray 73) := ⟨_, rfl⟩
  have HC : Hid (Cls w [(g, F.vals, 30), (w.heap.size, entVals x, 73)] W) := Lib.hid (by
    rw [hW]
    refine ⟨(Below.refl _ _).alloc (Nat.le_refl _) _, fun y hy => ?_⟩
    rcases List.mem_cons.1 hy with rfl | hy
    · exact HF.out.alloc _
    · rw [List.mem_singleton.1 hy]; exact Blk.new' _ _ _)
  rw [← hW]
  clear hW
  cases hp : entPlain x
  · have HP := Lib.hid hp
    obtain ⟨r1, r2⟩ := appCode_2 (F := F) (x := x) (by rw [hp]; rfl)
    have HR1 := Lib.hid r1
    have HR2 := Lib.hid r2
    clear hp r1 r2
    go_wp2_with (first
      | (with_reducible refine wpList_load_blk rfl 73 (.tmp 3) rfl _ 0 rfl (entVals x) _ (HC.out.blk (w.heap.size, entVals x, 73) (by simp)) rfl Try.underlying73 rfl (by kernel_rfl) ?_)
      | (go_at_call 95; refine (l07Entry_any x HX.out _).mono ?_; rintro e w1 ⟨rfl, hb⟩; rw [HP.out]; have HC1 := Lib.hid (HC.out.step hb); clear hb))
    go_ret
    exact ⟨ret_i64 HR1.out.symm, by rw [HR2.out]; exact HC1.out.blk (g, F.vals, 30) (by simp), keptB HC1.out.below⟩
  cases hh : F.has x.f1
  · have HP := Lib.hid hp
    have HH := Lib.hid hh
    obtain ⟨r1, r2⟩ := appCode_2 (F := F) (x := x) (by rw [hp, hh]; rfl)
    have HR1 := Lib.hid r1
    have HR2 := Lib.hid r2
    have hb0 := HX.out.b0
    have hb1 := HX.out.b1
    clear hp hh r1 r2
    go_wp2_with (first
      | (with_reducible refine wpList_load_blk rfl 73 (.tmp 3) rfl _ 0 rfl (entVals x) _ (HC.out.blk (w.heap.size, entVals x, 73) (by simp)) rfl Try.underlying73 rfl (by kernel_rfl) ?_)
      | (go_at_call 95; refine (l07Entry_any x HX.out _).mono ?_; rintro e w1 ⟨rfl, hb⟩; rw [HP.out]; have HC1 := Lib.hid (HC.out.step hb); clear hb; have k1 := (HC1.out.blk (w.heap.size, entVals x, 73) (by simp)).cell (i := 1) rfl)
      | (go_at_call 88; refine (is_any F _ _ _ (HC1.out.blk (g, F.vals, 30) (by simp)) HO.out).mono ?_; rintro e w' ⟨rfl, rfl⟩; rw [HH.out]))
    go_ret
    exact ⟨ret_i64 HR1.out.symm, by rw [HR2.out]; exact HC1.out.blk (g, F.vals, 30) (by simp), keptB HC1.out.below⟩
  have hp2 := hp
  unfold entPlain at hp2
  obtain ⟨f0, f1, f2⟩ := x
  obtain ⟨k, hk, hk2⟩ := has_nat hh
  simp only at hk hh hp2
  subst hk
  have HP := Lib.hid hp
  have HH := Lib.hid hh
  simp only [Bool.and_eq_true, inB_iff] at hp2
  obtain ⟨⟨p0, p1⟩, ⟨p2, p3⟩, p4, p5⟩ := hp2
  obtain ⟨q0, q1, q2, q3, q4, q5, q6⟩ := hV.c k hk2
  have HAC : Hid (appCode F ⟨f0, k, f2⟩ = if F.kind k = 0 then (if f0 = 0 then (if 1000 < F.seed k + f2 then 3 else 0) else (if F.seed k < f2 then 8 else 0)) else 4) := Lib.hid (by
    unfold appCode
    rw [if_pos (by rw [hp, hh]; rfl)]
    simp only [Int.toNat_natCast])
  clear hp hh q4 q5 q6
  go_upto_region 3 with (first
    | (with_reducible refine wpList_load_blk rfl 73 (.tmp 3) rfl _ 0 rfl (entVals ⟨f0, k, f2⟩) _ (HC.out.blk (w.heap.size, entVals ⟨f0, k, f2⟩, 73) (by simp)) rfl Try.underlying73 rfl (by kernel_rfl) ?_)
    | (go_at_call 95; refine (l07Entry_any ⟨f0, k, f2⟩ HX.out _).mono ?_; rintro e w1 ⟨rfl, hb⟩; rw [HP.out]; have HC1 := Lib.hid (HC.out.step hb); clear hb; have k1 := (HC1.out.blk (w.heap.size, entVals ⟨f0, k, f2⟩, 73) (by simp)).cell (i := 1) rfl)
    | (go_at_call 88; refine (is_any F _ _ _ (HC1.out.blk (g, F.vals, 30) (by simp)) HO.out).mono ?_; rintro e w' ⟨rfl, rfl⟩; rw [HH.out]))
  have HE := Lib.hid (HC1.out.blk (w.heap.size, entVals ⟨f0, k, f2⟩, 73) (by simp))
  have HF1 := Lib.hid (HC1.out.blk (g, F.vals, 30) (by simp))
  have k0 := HE.out.cell (i := 0) rfl
  have k2 := HE.out.cell (i := 2) rfl
  have cs := IsF.cs HF1.out HO.out hk2
  have ck := IsF.ck HF1.out HO.out hk2
  have fz := HF1.out.free (102 + k)
  simp only at k0 k1 k2 cs ck
  have hk3 : (0 : Int) ≤ (k : Int) := by omega
  have hk4 : (k : Int) < 100 := by omega
  have hns : ∀ (h : appCode F ⟨f0, k, f2⟩ ≠ 0), appF F ⟨f0, k, f2⟩ = F := fun h => by unfold appF; rw [if_neg h]
  by_cases c1 : F.kind k = 0
  · rw [c1] at ck
    rw [if_pos c1] at HAC
    by_cases c2 : f0 = 0
    · subst c2
      rw [if_pos rfl] at HAC
      by_cases c3 : 1000 < F.seed k + f2
      · rw [if_pos c3] at HAC
        have HR1 := Lib.hid HAC.out
        have HR2 := Lib.hid (hns (by rw [HAC.out]; decide))
        have HIB : Hid (inB (F.seed k + f2) 0 1000 = false) := Lib.hid (by unfold inB; rw [decide_eq_false (show ¬ F.seed k + f2 ≤ 1000 by omega), Bool.and_false])
        clear hns HAC c1
        go_quiet (fail)
        go_wp2
        go_quiet (fail)
        go_wp2_with (go_at_call 84; refine (l01Seeds_any _ _).mono ?_; rintro e w' ⟨rfl, rfl⟩; rw [HIB.out])
        go_ret
        exact ⟨ret_i64 HR1.out.symm, by rw [HR2.out]; exact blk_draws HF1.out (by rfl), kept_draws (keptB HC1.out.below) (by rfl) (by rfl) (by rfl) (by rfl)⟩
      · rw [if_neg c3] at HAC
        have HR1 := Lib.hid HAC.out
        have HS : Hid (Blk (w1.setCell ⟨g, 102 + k, none⟩ (.int .i16 (F.seed k + f2))) g (appF F ⟨0, k, f2⟩).vals 30) := Lib.hid (by
          have e : appF F ⟨0, k, f2⟩ = F.setSeed k (F.seed k + f2) := by unfold appF; rw [if_pos HAC.out]; simp only [Int.toNat_natCast, if_true]
          rw [e, ← setSeed_vals HO.out]
          exact HF1.out.set _ _)
        have HK := Lib.hid ((keptB (g := g) HC1.out.below).set (102 + k) (.int .i16 (F.seed k + f2)))
        clear hns HAC c1
        have HIB : Hid (inB (F.seed k + f2) 0 1000 = true) := Lib.hid (by rw [inB_iff]; omega)
        go_quiet (fail)
        go_wp2
        go_quiet (fail)
        go_wp2_with (go_at_call 84; refine (l01Seeds_any _ _).mono ?_; rintro e w' ⟨rfl, rfl⟩; rw [HIB.out])
        go_region
        all_goals
          go_wp2
          go_ret
          exact ⟨ret_i64 HR1.out.symm, blk_draws HS.out (by rfl), kept_draws HK.out (by rfl) (by rfl) (by rfl) (by rfl)⟩
    · rw [if_neg c2] at HAC
      by_cases c3 : F.seed k < f2
      · rw [if_pos c3] at HAC
        have HR1 := Lib.hid HAC.out
        have HR2 := Lib.hid (hns (by rw [HAC.out]; decide))
        clear hns HAC c1
        go_quiet (fail)
        go_wp2
        go_quiet (fail)
        go_wp2
        go_ret
        exact ⟨ret_i64 HR1.out.symm, by rw [HR2.out]; exact blk_draws HF1.out (by rfl), kept_draws (keptB HC1.out.below) (by rfl) (by rfl) (by rfl) (by rfl)⟩
      · rw [if_neg c3] at HAC
        have HR1 := Lib.hid HAC.out
        have HS : Hid (Blk (w1.setCell ⟨g, 102 + k, none⟩ (.int .i16 (F.seed k - f2))) g (appF F ⟨f0, k, f2⟩).vals 30) := Lib.hid (by
          have e : appF F ⟨f0, k, f2⟩ = F.setSeed k (F.seed k - f2) := by unfold appF; rw [if_pos HAC.out]; simp only [Int.toNat_natCast, if_neg c2]
          rw [e, ← setSeed_vals HO.out]
          exact HF1.out.set _ _)
        have HK := Lib.hid ((keptB (g := g) HC1.out.below).set (102 + k) (.int .i16 (F.seed k - f2)))
        clear hns HAC c1
        go_quiet (fail)
        go_wp2
        go_quiet (fail)
        go_wp2
        go_region
        all_goals
          go_wp2
          go_ret
          exact ⟨ret_i64 HR1.out.symm, blk_draws HS.out (by rfl), kept_draws HK.out (by rfl) (by rfl) (by rfl) (by rfl)⟩
  · rw [if_neg c1] at HAC
    have HR1 := Lib.hid HAC.out
    have HR2 := Lib.hid (hns (by rw [HAC.out]; decide))
    clear hns HAC
    go_quiet (fail)
    go_wp2
    go_quiet (fail)
    go_wp2
    go_ret
    exact ⟨ret_i64 HR1.out.symm, by rw [HR2.out]; exact blk_draws HF1.out (by rfl), kept_draws (keptB HC1.out.below) (by rfl) (by rfl) (by rfl) (by rfl)⟩
end Go.Proofs.Ytlhiaofanejcoaa
