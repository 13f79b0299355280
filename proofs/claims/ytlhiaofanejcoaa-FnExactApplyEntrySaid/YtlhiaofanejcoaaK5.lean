/- An entry made in a field, by the program and by the reference: the same. No condition but that the numbers are within their kinds, and that the field is valid. -/
import Derived.Test.YtlhiaofanejcoaaP2
import Derived.Test.YtlhiaofanejcoaaG2
import Derived.Test.YtlhiaofanejcoaaV0
import Derived.Test.YtlhiaofanejcoaaPAllx4
import Derived.Test.YtlhiaofanejcoaaPAllx3
namespace Go.Proofs.Ytlhiaofanejcoaa
open Go.RowKit Go.Proofs.YtlhiaofanejcoaaW.PrintWords Go.Proofs.YtlhiaofanejcoaaW.PrintLast Go.Proofs.YtlhiaofanejcoaaW.PrintMore Go.Proofs.Ytlhiaofanejcoaa.PAll
set_option linter.unusedSimpArgs false
set_option linter.unusedVariables false

/-- An entry's numbers are within their kinds. -/
structure EntOk (x : S73) : Prop where
  a0 : -128 ≤ x.f0
  a1 : x.f0 ≤ 127
  b0 : -32768 ≤ x.f1
  b1 : x.f1 ≤ 32767
  c0 : -32768 ≤ x.f2
  c1 : x.f2 ≤ 32767
def entVals (x : S73) : List Value := [.int .i8 x.f0, .int .i16 x.f1, .int .i16 x.f2]
def entPlain (x : S73) : Bool := inB x.f0 0 3 && (inB x.f1 0 99 && inB x.f2 1 1000)
theorem w64 {z : Int} (h0 : -32768 ≤ z) (h1 : z ≤ 32767) : wrap64 z = z := by unfold wrap64; omega
theorem isPlainE_any (x : S73) (hx : EntOk x) (w : World) : Calls Try.prog 96 #[.agg (entVals x).toArray] w fun e w' => e = .returned (.bool (entPlain x)) ∧ Below w.heap.size w w' :=
  impl_Entry_isPlain.calls x.f0 x.f1 x.f2 _ w (by
    obtain ⟨a0, a1, b0, b1, c0, c1⟩ := hx
    unfold impl_Entry_isPlain.f entPlain inB
    rw [w64 (by omega) (by omega), w64 b0 b1, w64 c0 c1]
    simp only [impl_within.f]
    by_cases h1 : 0 ≤ x.f0 <;> by_cases h2 : x.f0 ≤ 3 <;> by_cases h3 : 0 ≤ x.f1 <;> by_cases h4 : x.f1 ≤ 99 <;> by_cases h5 : 1 ≤ x.f2 <;> by_cases h6 : x.f2 ≤ 1000 <;> simp [h1, h2, h3, h4, h5, h6])
theorem l07Entry_any (x : S73) (hx : EntOk x) (w : World) : Calls Try.prog 95 #[.agg (entVals x).toArray] w fun e w' => e = .returned (.bool (entPlain x)) ∧ Below w.heap.size w w' :=
  spec_l07Entry.calls x.f0 x.f1 x.f2 _ w (by
    obtain ⟨a0, a1, b0, b1, c0, c1⟩ := hx
    unfold spec_l07Entry.f entPlain inB
    rw [w64 (by omega) (by omega), w64 b0 b1, w64 c0 c1]
    simp only [spec_l00In.f]
    by_cases h1 : 0 ≤ x.f0 <;> by_cases h2 : x.f0 ≤ 3 <;> by_cases h3 : 0 ≤ x.f1 <;> by_cases h4 : x.f1 ≤ 99 <;> by_cases h5 : 1 ≤ x.f2 <;> by_cases h6 : x.f2 ≤ 1000 <;> simp [h1, h2, h3, h4, h5, h6])

/-- A field with other seeds in a cell. -/
def Fld.setSeed (F : Fld) (k : Nat) (v : Int) : Fld := { F with seeds := F.seeds.set k v }
theorem setSeed_vals {F : Fld} (h : F.Ok) (k : Nat) (v : Int) : F.vals.set (102 + k) (.int .i16 v) = (F.setSeed k v).vals := by
  rw [show 102 + k = (100 + k) + 2 by omega]
  simp only [Fld.vals, Fld.setSeed, List.set_cons_succ, List.map_set]
  rw [List.set_append_right _ _ (by simp [h.kl])]
  simp [h.kl]
theorem setSeed_ok {F : Fld} (h : F.Ok) (k : Nat) {v : Int} (h0 : -32768 ≤ v) (h1 : v ≤ 32767) : (F.setSeed k v).Ok :=
  ⟨h.w0, h.w1, h.h0, h.h1, h.kl, by simp [Fld.setSeed, h.sl], h.k, fun z hz => by
    rcases List.mem_or_eq_of_mem_set hz with hz | rfl
    · exact h.s z hz
    · exact ⟨h0, h1⟩⟩

def appCode (F : Fld) (x : S73) : Int :=
  if (entPlain x && F.has x.f1) = true then
    if F.kind x.f1.toNat = 0 then
      if x.f0 = 0 then (if 1000 < F.seed x.f1.toNat + x.f2 then 3 else 0) else (if F.seed x.f1.toNat < x.f2 then 8 else 0)
    else 4
  else 2
def appF (F : Fld) (x : S73) : Fld := if appCode F x = 0 then F.setSeed x.f1.toNat (if x.f0 = 0 then F.seed x.f1.toNat + x.f2 else F.seed x.f1.toNat - x.f2) else F
theorem appCode_2 {F : Fld} {x : S73} (h : (entPlain x && F.has x.f1) = false) : appCode F x = 2 ∧ appF F x = F := by
  have : appCode F x = 2 := by unfold appCode; rw [if_neg (by rw [h]; decide)]
  exact ⟨this, by unfold appF; rw [if_neg (by rw [this]; decide)]⟩
theorem keptB {g : Nat} {w w' : World} (h : Below w.heap.size w w') : Kept g w w' := (Kept.refl g w).step h
theorem blk_draws {w w' : World} {g : Nat} {cs : List Value} {T : TypeId} (h : Blk w g cs T) (e : w'.heap = w.heap) : Blk w' g cs T := by unfold Blk; rw [e]; exact h
theorem kept_draws {g : Nat} {w w1 w' : World} (h : Kept g w w1) (e1 : w'.os = w1.os) (e2 : w'.tape = w1.tape) (e3 : w'.output = w1.output) (e4 : w'.heap = w1.heap) : Kept g w w' :=
  ⟨e1.trans h.os, e2.trans h.tape, e3.trans h.output, by rw [e4]; exact h.size, fun k hl hk => by rw [e4]; exact h.block k hl hk⟩

set_option maxHeartbeats 4000000 in
theorem apply_any (F : Fld) (hF : F.Ok) (hV : F.Valid) (x : S73) (hx : EntOk x) (g : Nat) (w : World) (hf : IsF w g F) :
    Calls Try.prog 82 #[.pointer (some ⟨g, 0, none⟩), .agg (entVals x).toArray] w fun e w' => e = .returned (.int .i64 (appCode F x)) ∧ IsF w' g (appF F x) ∧ Kept g w w' := by
  have HF := Lib.hid hf
  have HO := Lib.hid hF
  have HX := Lib.hid hx
  clear hf hF hx
  go_enter Try.func82, Try.ntmps82
  go_upto_region 2 with (fail)
  obtain ⟨W, hW⟩ : ∃ W, W = w.alloc (.cells (entVals x).toArray 73) := ⟨_, rfl⟩
  have HC : Hid (Cls w [(g, F.vals, 30), (w.heap.size, entVals x, 73)] W) := Lib.hid (by
    rw [hW]
    refine ⟨(Below.refl _ _).alloc (Nat.le_refl _) _, fun y hy => ?_⟩
    rcases List.mem_cons.1 hy with rfl | hy
    · exact HF.out.alloc _
    · rw [List.mem_singleton.1 hy]; exact Blk.new' _ _ _)
  rw [← hW]
  clear hW
  cases hp : entPlain x
  · have HP := Lib.hid hp
    obtain ⟨r1, r2⟩ := appCode_2 (F := F) (x := x) (by rw [hp]; rfl)
    have HR1 := Lib.hid r1
    have HR2 := Lib.hid r2
    clear hp r1 r2
    go_wp2_with (first
      | (with_reducible refine wpList_load_blk rfl 73 (.tmp 3) rfl _ 0 rfl (entVals x) _ (HC.out.blk (w.heap.size, entVals x, 73) (by simp)) rfl Try.underlying73 rfl (by kernel_rfl) ?_)
      | (go_at_call 96; refine (isPlainE_any x HX.out _).mono ?_; rintro e w1 ⟨rfl, hb⟩; rw [HP.out]; have HC1 := Lib.hid (HC.out.step hb); clear hb))
    go_ret
    exact ⟨ret_i64 HR1.out.symm, by rw [HR2.out]; exact HC1.out.blk (g, F.vals, 30) (by simp), keptB HC1.out.below⟩
  cases hh : F.has x.f1
  · have HP := Lib.hid hp
    have HH := Lib.hid hh
    obtain ⟨r1, r2⟩ := appCode_2 (F := F) (x := x) (by rw [hp, hh]; rfl)
    have HR1 := Lib.hid r1
    have HR2 := Lib.hid r2
    have hb0 := HX.out.b0
    have hb1 := HX.out.b1
    clear hp hh r1 r2
    go_wp2_with (first
      | (with_reducible refine wpList_load_blk rfl 73 (.tmp 3) rfl _ 0 rfl (entVals x) _ (HC.out.blk (w.heap.size, entVals x, 73) (by simp)) rfl Try.underlying73 rfl (by kernel_rfl) ?_)
      | (go_at_call 96; refine (isPlainE_any x HX.out _).mono ?_; rintro e w1 ⟨rfl, hb⟩; rw [HP.out]; have HC1 := Lib.hid (HC.out.step hb); clear hb; have k1 := (HC1.out.blk (w.heap.size, entVals x, 73) (by simp)).cell (i := 1) rfl)
      | (go_at_call 89; refine (has_any F _ _ _ (HC1.out.blk (g, F.vals, 30) (by simp)) HO.out).mono ?_; rintro e w' ⟨rfl, rfl⟩; rw [HH.out]))
    go_ret
    exact ⟨ret_i64 HR1.out.symm, by rw [HR2.out]; exact HC1.out.blk (g, F.vals, 30) (by simp), keptB HC1.out.below⟩
  have hp2 := hp
  unfold entPlain at hp2
  obtain ⟨f0, f1, f2⟩ := x
  obtain ⟨k, hk, hk2⟩ := has_nat hh
  simp only at hk hh hp2
  subst hk
  have HP := Lib.hid hp
  have HH := Lib.hid hh
  simp only [Bool.and_eq_true, inB_iff] at hp2
  obtain ⟨⟨p0, p1⟩, ⟨p2, p3⟩, p4, p5⟩ := hp2
  obtain ⟨q0, q1, q2, q3, q4, q5, q6⟩ := hV.c k hk2
  have HAC : Hid (appCode F ⟨f0, k, f2⟩ = if F.kind k = 0 then (if f0 = 0 then (if 1000 < F.seed k + f2 then 3 else 0) else (if F.seed k < f2 then 8 else 0)) else 4) := Lib.hid (by
    unfold appCode
    rw [if_pos (by rw [hp, hh]; rfl)]
    simp only [Int.toNat_natCast])
  clear hp hh q4 q5 q6
  go_upto_region 4 with (first
    | (with_reducible refine wpList_load_blk rfl 73 (.tmp 3) rfl _ 0 rfl (entVals ⟨f0, k, f2⟩) _ (HC.out.blk (w.heap.size, entVals ⟨f0, k, f2⟩, 73) (by simp)) rfl Try.underlying73 rfl (by kernel_rfl) ?_)
    | (go_at_call 96; refine (isPlainE_any ⟨f0, k, f2⟩ HX.out _).mono ?_; rintro e w1 ⟨rfl, hb⟩; rw [HP.out]; have HC1 := Lib.hid (HC.out.step hb); clear hb; have k1 := (HC1.out.blk (w.heap.size, entVals ⟨f0, k, f2⟩, 73) (by simp)).cell (i := 1) rfl)
    | (go_at_call 89; refine (has_any F _ _ _ (HC1.out.blk (g, F.vals, 30) (by simp)) HO.out).mono ?_; rintro e w' ⟨rfl, rfl⟩; rw [HH.out]))
  have HE := Lib.hid (HC1.out.blk (w.heap.size, entVals ⟨f0, k, f2⟩, 73) (by simp))
  have HF1 := Lib.hid (HC1.out.blk (g, F.vals, 30) (by simp))
  have k0 := HE.out.cell (i := 0) rfl
  have k2 := HE.out.cell (i := 2) rfl
  have cs := IsF.cs HF1.out HO.out hk2
  have ck := IsF.ck HF1.out HO.out hk2
  have fz := HF1.out.free (102 + k)
  simp only at k0 k1 k2 cs ck
  have hk3 : (0 : Int) ≤ (k : Int) := by omega
  have hk4 : (k : Int) < 100 := by omega
  have hns : ∀ (h : appCode F ⟨f0, k, f2⟩ ≠ 0), appF F ⟨f0, k, f2⟩ = F := fun h => by unfold appF; rw [if_neg h]
  by_cases c1 : F.kind k = 0
  · rw [c1] at ck
    rw [if_pos c1] at HAC
    by_cases c2 : f0 = 0
    · subst c2
      rw [if_pos rfl] at HAC
      by_cases c3 : 1000 < F.seed k + f2
      · rw [if_pos c3] at HAC
        have HR1 := Lib.hid HAC.out
        have HR2 := Lib.hid (hns (by rw [HAC.out]; decide))
        clear hns HAC c1
        go_quiet (fail)
        go_wp2
        go_quiet (fail)
        go_wp2
        go_ret
        exact ⟨ret_i64 HR1.out.symm, by rw [HR2.out]; exact (HF1.out.drewN _).drewN _, keptB (below_drewN (below_drewN HC1.out.below _) _)⟩
      · rw [if_neg c3] at HAC
        have HR1 := Lib.hid HAC.out
        have HS : Hid (Blk (w1.setCell ⟨g, 102 + k, none⟩ (.int .i16 (F.seed k + f2))) g (appF F ⟨0, k, f2⟩).vals 30) := Lib.hid (by
          have e : appF F ⟨0, k, f2⟩ = F.setSeed k (F.seed k + f2) := by unfold appF; rw [if_pos HAC.out]; simp only [Int.toNat_natCast, if_true]
          rw [e, ← setSeed_vals HO.out]
          exact HF1.out.set _ _)
        have HK := Lib.hid ((keptB (g := g) HC1.out.below).set (102 + k) (.int .i16 (F.seed k + f2)))
        clear hns HAC c1
        go_quiet (fail)
        go_wp2
        go_quiet (fail)
        go_wp2
        go_quiet (fail)
        go_wp2
        go_region
        all_goals
          go_wp2
          go_ret
          exact ⟨ret_i64 HR1.out.symm, blk_draws HS.out (by rfl), kept_draws HK.out (by rfl) (by rfl) (by rfl) (by rfl)⟩
    · rw [if_neg c2] at HAC
      by_cases c3 : F.seed k < f2
      · rw [if_pos c3] at HAC
        have HR1 := Lib.hid HAC.out
        have HR2 := Lib.hid (hns (by rw [HAC.out]; decide))
        clear hns HAC c1
        go_quiet (fail)
        go_wp2
        go_quiet (fail)
        go_wp2
        go_quiet (fail)
        go_wp2
        go_ret
        exact ⟨ret_i64 HR1.out.symm, by rw [HR2.out]; exact ((HF1.out.drewN _).drewN _).drewN _, keptB (below_drewN (below_drewN (below_drewN HC1.out.below _) _) _)⟩
      · rw [if_neg c3] at HAC
        have HR1 := Lib.hid HAC.out
        have HS : Hid (Blk (w1.setCell ⟨g, 102 + k, none⟩ (.int .i16 (F.seed k - f2))) g (appF F ⟨f0, k, f2⟩).vals 30) := Lib.hid (by
          have e : appF F ⟨f0, k, f2⟩ = F.setSeed k (F.seed k - f2) := by unfold appF; rw [if_pos HAC.out]; simp only [Int.toNat_natCast, if_neg c2]
          rw [e, ← setSeed_vals HO.out]
          exact HF1.out.set _ _)
        have HK := Lib.hid ((keptB (g := g) HC1.out.below).set (102 + k) (.int .i16 (F.seed k - f2)))
        clear hns HAC c1
        go_quiet (fail)
        go_wp2
        go_quiet (fail)
        go_wp2
        go_quiet (fail)
        go_wp2
        go_region
        all_goals
          go_wp2
          go_ret
          exact ⟨ret_i64 HR1.out.symm, blk_draws HS.out (by rfl), kept_draws HK.out (by rfl) (by rfl) (by rfl) (by rfl)⟩
  · rw [if_neg c1] at HAC
    have HR1 := Lib.hid HAC.out
    have HR2 := Lib.hid (hns (by rw [HAC.out]; decide))
    clear hns HAC
    go_quiet (fail)
    go_wp2
    go_ret
    exact ⟨ret_i64 HR1.out.symm, by rw [HR2.out]; exact HF1.out.drewN _, keptB (below_drewN HC1.out.below _)⟩
end Go.Proofs.Ytlhiaofanejcoaa
