/- A guess of a loss by a sample, by the program and by the reference: the same. No condition but that the numbers are within their kinds. -/
import Derived.Test.YtalmlgkedcdkdaaBM
import Derived.Test.YtalmlgkedcdkdaaPO
namespace Go.Proofs.Ytalmlgkedcdkdaa
open Go.RowKit Go.Proofs.YtalmlgkedcdkdaaW.PrintWords Go.Proofs.YtalmlgkedcdkdaaW.PrintLast Go.Proofs.YtalmlgkedcdkdaaW.PrintMore
set_option linter.unusedSimpArgs false
set_option linter.unusedVariables false

set_option maxRecDepth 100000 in
set_option maxHeartbeats 2000000 in
theorem countCells_any {U : List Int} (hU : ClOk U) (w : World) : Calls Try.prog 22 #[.agg (vrow .u64 U).toArray] w fun e w' => e = .returned (.int .i64 ((cntN (hasN U) 100 : Nat) : Int)) ∧ Below w.heap.size w w' := by
  obtain ⟨x, y, rfl, x0, x1, y0, y1⟩ := hU.two
  clear hU
  obtain ⟨n, rfl⟩ : ∃ n : Nat, x = (n : Int) := ⟨x.toNat, by omega⟩
  obtain ⟨m, rfl⟩ : ∃ n : Nat, y = (n : Int) := ⟨y.toNat, by omega⟩
  have hn : n < 2 ^ 64 := by omega
  have hm : m < 2 ^ 64 := by omega
  have HX := Lib.hid (ones_f hn)
  have HY := Lib.hid (ones_f (show (m &&& 68719476735) < 2 ^ 64 from Nat.lt_of_le_of_lt Nat.and_le_left hm))
  have HM : Hid (Go.bits .and .u64 (m : Int) 68719476735 = ((m &&& 68719476735 : Nat) : Int)) := Lib.hid (and_nat hm (by decide))
  have HW := Lib.hid (cntN_words hn hm)
  have l1 := PC.popB_le n 64
  have l2 := PC.popB_le (m &&& 68719476735) 64
  clear hn hm x0 x1 y0 y1
  rw [← HW.out]
  go_enter Try.func22, Try.ntmps22
  go_upto_region 1 with (fail)
  obtain ⟨W, hW⟩ : ∃ W, W = w.alloc (.cells (vrow .u64 [(n : Int), (m : Int)]).toArray 34) := ⟨_, rfl⟩
  have HC := Lib.hid (boxed1 w (vrow .u64 [(n : Int), (m : Int)]) 34)
  rw [← hW] at HC ⊢
  clear hW
  generalize hq : (m &&& 68719476735) = q at *
  go_upto_region 2 with (first
    | (with_reducible refine wpList_load_blk rfl 34 (.tmp 1) rfl _ 0 rfl (vrow .u64 [(n : Int), (m : Int)]) _ (HC.out.blk (w.heap.size, vrow .u64 [(n : Int), (m : Int)], 34) (by simp)) (by rw [List.drop_zero, List.take_length]) Try.underlying34 rfl (by kernel_rfl) ?_)
    | (go_at_call 29; refine (cut_any (n : Int) (m : Int) _).mono ?_; rw [HM.out]; rintro e w2 ⟨rfl, hb⟩; have HC2 := Lib.hid (HC.out.step hb); clear hb)
    | ((with_reducible refine gate_op (.store 34 (.tmp 1) (.tmp 4)) rfl ?_); refine wpList_store_all rfl 34 (.tmp 1) (.tmp 4) rfl _ (vrow .u64 [(n : Int), (q : Int)]) (by kernel_rfl) (by kernel_rfl) (HC2.out.blk (w.heap.size, vrow .u64 [(n : Int), (m : Int)], 34) (by simp)) rfl (by kernel_rfl) (vrow_one _ _) ?_; refine wpl_name (fun w' => Below w.heap.size w w' ∧ Blk w' w.heap.size (vrow .u64 [(n : Int), (q : Int)]) 34) ⟨below_setRow HC2.out.below (Nat.le_refl _) _, (HC2.out.blk (w.heap.size, vrow .u64 [(n : Int), (m : Int)], 34) (by simp)).row _⟩ ?_; rintro w3 ⟨hb, hK⟩; have HK3 := Lib.hid hK; have HB3 := Lib.hid hb; clear hb hK))
  have ea : IntKind.i64.wrap (((PC.popB n 64 : Nat) : Int) + ((PC.popB q 64 : Nat) : Int)) = ((PC.popB n 64 + PC.popB q 64 : Nat) : Int) := by rw [IntKind.wrap_i64]; omega
  obtain ⟨a, ha⟩ : ∃ a, a = PC.popB n 64 := ⟨_, rfl⟩
  obtain ⟨b, hb⟩ : ∃ b, b = PC.popB q 64 := ⟨_, rfl⟩
  rw [← ha, ← hb] at ea
  rw [← ha] at HX
  rw [← hb] at HY
  have Ha := Lib.hid ha
  have Hb : Hid (b = PC.popB (m &&& 68719476735) 64) := Lib.hid (by rw [hq]; exact hb)
  clear ha hb
  refine wp_region_K 8 8 #[false, false, false, false, false, false, false, false] (by kernel_rfl) (by kernel_rfl) (fun _ _ _ _ hd h => ⟨hd.symm.trans h.1, h.2⟩) (fun hPB => ?_)
  have HD : Hid (Blk w3.drew w.heap.size (vrow .u64 [(n : Int), (q : Int)]) 34) := Lib.hid (HK3.out.drewN 1)
  refine wpK_auto (i := 0) #[true, false, false, false, false, false, false, false] rfl (by kernel_rfl) hPB (fun K hK => ?_)
  go_simp
  refine hK _ ?_
  clear hK K
  refine wpK_take (i := 1) #[true, true, false, false, false, false, false, false] rfl (by kernel_rfl) hPB (y_loadc (v := .int .u64 (n : Int)) rfl 28 (.tmp 5) rfl ⟨w.heap.size, 0, none⟩ (by kernel_rfl) (fun w' h => run_loadc_int 28 Try.underlying28 ((HD.out.below h HD.out.lt).cell rfl))) ?_
  simp only [Act.put, List.setIfInBounds_toArray, List.set_cons_zero, List.set_cons_succ]
  refine wpK_take (i := 2) #[true, true, true, false, false, false, false, false] rfl (by kernel_rfl) hPB (y_call (v := .int .i64 (a : Int)) rfl Try.func33 (by kernel_rfl) rfl #[.int .u64 (n : Int)] rfl (by simp only [List.map_toArray, List.map_cons, List.map_nil]; kernel_rfl) (fun w' h => (PAll.bits_OnesCount64.calls (n : Int) _ w' HX.out).mono (fun e w'' hh => ⟨hh.1, hh.2.below⟩))) ?_
  simp only [Act.put, List.setIfInBounds_toArray, List.set_cons_zero, List.set_cons_succ]
  refine wpK_auto (i := 3) #[true, true, true, true, false, false, false, false] rfl (by kernel_rfl) hPB (fun K hK => ?_)
  go_simp
  refine hK _ ?_
  clear hK K
  refine wpK_take (i := 4) #[true, true, true, true, true, false, false, false] rfl (by kernel_rfl) hPB (y_loadc (v := .int .u64 (q : Int)) rfl 28 (.tmp 8) rfl ⟨w.heap.size, 1, none⟩ (by kernel_rfl) (fun w' h => run_loadc_int 28 Try.underlying28 ((HD.out.below h HD.out.lt).cell rfl))) ?_
  simp only [Act.put, List.setIfInBounds_toArray, List.set_cons_zero, List.set_cons_succ]
  refine wpK_take (i := 5) #[true, true, true, true, true, true, false, false] rfl (by kernel_rfl) hPB (y_call (v := .int .i64 (b : Int)) rfl Try.func33 (by kernel_rfl) rfl #[.int .u64 (q : Int)] rfl (by simp only [List.map_toArray, List.map_cons, List.map_nil]; kernel_rfl) (fun w' h => (PAll.bits_OnesCount64.calls (q : Int) _ w' HY.out).mono (fun e w'' hh => ⟨hh.1, hh.2.below⟩))) ?_
  simp only [Act.put, List.setIfInBounds_toArray, List.set_cons_zero, List.set_cons_succ]
  refine wpK_auto (i := 6) #[true, true, true, true, true, true, true, false] rfl (by kernel_rfl) hPB (fun K hK => ?_)
  go_simp
  refine hK _ ?_
  clear hK K
  refine wpK_auto (i := 7) #[true, true, true, true, true, true, true, true] rfl (by kernel_rfl) hPB (fun K hK => ?_)
  go_simp
  refine hK _ ?_
  clear hK K
  refine wpK_done (by kernel_rfl) (fun w5 hu5 => ?_)
  have HB5 : Hid (Below w.heap.size w w5) := Lib.hid ((below_drewN HB3.out 1).trans (hu5.mono (below_drewN HB3.out 1).size))
  go_wp2
  go_ret
  rw [← Ha.out, ← Hb.out, Int.natCast_add]
  exact ⟨rfl, HB5.out⟩

theorem cntN_set (p : Nat → Bool) : cntN (hasN (setTo p 100)) 100 = cntN p 100 := cntN_same 100 fun i hi => by rw [hasN_setTo p (by omega), decide_eq_true hi, Bool.true_and]
def soilS (F : Fld) (j : Nat) : Bool := F.has (j : Int) && (F.kind j == 0)
noncomputable def glRes (F G : Fld) (U : List Int) : Int × Int :=
  if pairCode F G = 0 then (if cntN (soilB F U) 100 = 0 then (0, 6) else ((smp F G U * ((cntN (soilS F) 100 : Nat) : Int)).tdiv ((cntN (soilB F U) 100 : Nat) : Int), 0)) else (0, pairCode F G)
theorem gl_pos {F G : Fld} {U : List Int} (h : pairCode F G = 0) (hs : cntN (soilB F U) 100 ≠ 0) : glRes F G U = ((smp F G U * ((cntN (soilS F) 100 : Nat) : Int)).tdiv ((cntN (soilB F U) 100 : Nat) : Int), 0) := by unfold glRes; rw [if_pos h, if_neg hs]
theorem gl_zero {F G : Fld} {U : List Int} (h : pairCode F G = 0) (hs : cntN (soilB F U) 100 = 0) : glRes F G U = (0, 6) := by unfold glRes; rw [if_pos h, if_pos hs]
theorem gl_code {F G : Fld} {U : List Int} (h : pairCode F G ≠ 0) : glRes F G U = (0, pairCode F G) := by unfold glRes; rw [if_neg h]
theorem mul_bd {x : Int} {n : Nat} (h0 : -3276800 ≤ x) (h1 : x ≤ 3276800) (hn : n ≤ 100) : -327680000 ≤ x * (n : Int) ∧ x * (n : Int) ≤ 327680000 := by
  have a := Int.mul_le_mul_of_nonneg_right h0 (show (0 : Int) ≤ (n : Int) by omega)
  have b := Int.mul_le_mul_of_nonneg_right h1 (show (0 : Int) ≤ (n : Int) by omega)
  omega
theorem tdiv_bd {p : Int} {m : Nat} (h0 : -327680000 ≤ p) (h1 : p ≤ 327680000) : -327680000 ≤ p.tdiv (m : Int) ∧ p.tdiv (m : Int) ≤ 327680000 := by
  have h := Int.natAbs_tdiv p (m : Int)
  have h2 : p.natAbs / (m : Int).natAbs ≤ p.natAbs := Nat.div_le_self _ _
  have e : (p.tdiv (m : Int)).natAbs ≤ p.natAbs := by rw [h]; exact h2
  omega

set_option maxRecDepth 100000 in
set_option maxHeartbeats 4000000 in
theorem iGuess_any (F G : Fld) (hF : F.Ok) (hG : G.Ok) (U : List Int) (hU : ClOk U) (w : World) :
    Calls Try.prog 10 #[.agg F.vals.toArray, .agg G.vals.toArray, .agg (vrow .u64 U).toArray] w fun e w' => e = .returned (.tuple #[.int .i64 (glRes F G U).1, .int .i64 (glRes F G U).2]) ∧ Below w.heap.size w w' := by
  have HO := Lib.hid hF
  have HP := Lib.hid hG
  have HU := Lib.hid hU
  have HUL := Lib.hid hU.len
  have hz := zeroCells
  clear hF hG hU
  go_enter Try.func10, Try.ntmps10
  go_upto_region 1 with (fail)
  obtain ⟨W, hW⟩ : ∃ W, W = ((w.alloc (.cells F.vals.toArray 32)).alloc (.cells G.vals.toArray 32)).alloc (.cells (vrow .u64 U).toArray 34) := ⟨_, rfl⟩
  have HC := Lib.hid (boxed3 w F.vals G.vals (vrow .u64 U) 32 32 34)
  rw [← hW] at HC ⊢
  clear hW
  by_cases hq : pairCode F G = 0
  · have HQ := Lib.hid hq
    have HL := Lib.hid (setTo_len (soilB F U) 100)
    have HN := Lib.hid (cntN_set (soilB F U))
    obtain ⟨n, hn⟩ : ∃ n, n = cntN (soilB F U) 100 := ⟨_, rfl⟩
    have ln : n ≤ 100 := by rw [hn]; exact cntN_le _ _
    obtain ⟨s0, s1⟩ := smp_bd F G U
    have Hn := Lib.hid hn
    have HG0 : Hid (n = 0 → glRes F G U = (0, 6)) := Lib.hid (fun h => gl_zero hq (by rw [← hn]; exact h))
    have HG1 : Hid (n ≠ 0 → glRes F G U = ((smp F G U * ((cntN (soilS F) 100 : Nat) : Int)).tdiv (n : Int), 0)) := Lib.hid (fun h => by rw [hn]; exact gl_pos hq (by rw [← hn]; exact h))
    clear hq hn
    go_upto_region 6 with (first
      | (go_at_call 16; refine (lossCode_any F G HO.out HP.out _ _ _ (HC.out.blk (w.heap.size, F.vals, 32) (by simp)) (HC.out.blk (w.heap.size + 1, G.vals, 32) (by simp))).mono ?_; rintro e w2 ⟨rfl, hb⟩; rw [HQ.out]; have HC1 := Lib.hid (HC.out.step hb); clear hb)
      | (with_reducible refine wpList_load_blk rfl 34 (.tmp 5) rfl _ 0 rfl (vrow .u64 U) _ (HC1.out.blk (w.heap.size + 1 + 1, vrow .u64 U, 34) (by simp)) (by rw [List.drop_zero, List.take_length]) Try.underlying34 rfl (by rw [vrow_len, HUL.out]; kernel_rfl) ?_)
      | (go_at_call 17; refine (sampled_any F G HO.out HP.out HU.out _ _ _ (HC1.out.blk (w.heap.size, F.vals, 32) (by simp)) (HC1.out.blk (w.heap.size + 1, G.vals, 32) (by simp))).mono ?_; rintro e w3 ⟨rfl, hb⟩; have HC3 := Lib.hid (HC1.out.step hb); clear hb)
      | ((with_reducible refine gate_op (.store 34 (.tmp 10) (.tmp 19)) rfl ?_); refine wpList_store_all rfl 34 (.tmp 10) (.tmp 19) rfl _ (vrow .u64 (setTo (soilB F U) 100)) (by kernel_rfl) (by kernel_rfl) (Blk.new' _ (zrow .u64 2) 34) (by rw [vrow_len, zrow_len, HL.out]) (by rw [vrow_len, HL.out]; kernel_rfl) (vrow_one _ _) ?_; refine wpl_name (fun w' => Below w3.heap.size w3 w' ∧ Blk w' w3.heap.size (vrow .u64 (setTo (soilB F U) 100)) 34) ⟨below_setRow ((Below.refl _ _).alloc (Nat.le_refl _) _) (Nat.le_refl _) _, (Blk.new' _ _ _).row _⟩ ?_; rintro w4 ⟨hb, hK⟩; have HA4 := Lib.hid hK; have HC4 := Lib.hid (HC3.out.step hb); clear hb hK)
      | (with_reducible refine wpList_load_blk rfl 34 (.tmp 10) rfl _ 0 rfl (vrow .u64 (setTo (soilB F U) 100)) _ HA4.out (by rw [List.drop_zero, List.take_length]) Try.underlying34 rfl (by rw [vrow_len, HL.out]; kernel_rfl) ?_)
      | (go_at_call 22; refine (countCells_any (setTo_ok (soilB F U)) _).mono ?_; rw [HN.out, ← Hn.out]; rintro e w5 ⟨rfl, hb⟩; have HA5 := Lib.hid (HA4.out.below hb HA4.out.lt); have HC5 := Lib.hid (HC4.out.step hb); clear hb; by_cases h0 : n = 0; (subst h0; have HG := Lib.hid (HG0.out rfl); go_wp2; go_ret2; rw [HG.out]; exact ⟨rfl, HC5.out.below⟩); have hn0 : ((n : Int) == 0) = false := by (rw [beq_eq_false_iff_ne]; omega)))
    have HG := Lib.hid (HG1.out h0)
    have HS := Lib.hid (cntN_set (soilS F))
    obtain ⟨s, hs⟩ : ∃ s, s = cntN (soilS F) 100 := ⟨_, rfl⟩
    have ls : s ≤ 100 := by rw [hs]; exact cntN_le _ _
    have HG' : Hid (glRes F G U = ((smp F G U * (s : Int)).tdiv (n : Int), 0)) := Lib.hid (by rw [hs]; exact HG.out)
    have Hs := Lib.hid hs
    clear hs HG HG0 HG1
    generalize smp F G U = x at *
    obtain ⟨m0, m1⟩ := mul_bd s0 s1 ls
    have em : IntKind.i64.wrap (x * (s : Int)) = x * (s : Int) := by rw [IntKind.wrap_i64]; omega
    generalize hp : x * (s : Int) = p at *
    obtain ⟨d0, d1⟩ := tdiv_bd (m := n) m0 m1
    have ed : IntKind.i64.wrap (p.tdiv (n : Int)) = p.tdiv (n : Int) := by rw [IntKind.wrap_i64]; omega
    refine wp_region_K 9 9 #[false, false, false, false, false, false, false, false, false] (by kernel_rfl) (by kernel_rfl) (fun _ _ _ _ hd h => ⟨hd.symm.trans h.1, h.2⟩) (fun hPB => ?_)
    have HD := Lib.hid (HC5.out.step (below_drewN (Below.refl _ _) 1))
    have HAD : Hid (Blk w5.drew w3.heap.size (vrow .u64 (setTo (soilB F U) 100)) 34) := Lib.hid (HA5.out.drewN 1)
    refine wpK_auto (i := 0) #[true, false, false, false, false, false, false, false, false] rfl (by kernel_rfl) hPB (fun K hK => ?_)
    go_simp
    refine hK _ ?_
    clear hK K
    refine wpK_take (i := 1) #[true, true, false, false, false, false, false, false, false] rfl (by kernel_rfl) hPB (y_call (v := .agg (vrow .u64 (setTo (soilS F) 100)).toArray) rfl Try.func20 (by kernel_rfl) rfl #[.pointer (some ⟨w.heap.size, 0, none⟩), .int .i64 0] rfl (by simp only [List.map_toArray, List.map_cons, List.map_nil]; kernel_rfl) (fun w' h => ofKind_any F HO.out 0 _ w' ((HD.out.step h).blk (w.heap.size, F.vals, 32) (by simp)))) ?_
    simp only [Act.put, List.setIfInBounds_toArray, List.set_cons_zero, List.set_cons_succ]
    refine wpK_take (i := 2) #[true, true, true, false, false, false, false, false, false] rfl (by kernel_rfl) hPB (y_call (v := .int .i64 (s : Int)) rfl Try.func22 (by kernel_rfl) rfl #[.agg (vrow .u64 (setTo (soilS F) 100)).toArray] rfl (by simp only [List.map_toArray, List.map_cons, List.map_nil]; kernel_rfl) (fun w' h => by rw [Hs.out, ← HS.out]; exact countCells_any (setTo_ok (soilS F)) w')) ?_
    simp only [Act.put, List.setIfInBounds_toArray, List.set_cons_zero, List.set_cons_succ]
    refine wpK_auto (i := 3) #[true, true, true, true, false, false, false, false, false] rfl (by kernel_rfl) hPB (fun K hK => ?_)
    go_simp
    refine hK _ ?_
    clear hK K
    refine wpK_take (i := 4) #[true, true, true, true, true, false, false, false, false] rfl (by kernel_rfl) hPB (y_load rfl 34 (.tmp 10) rfl w3.heap.size 0 (by kernel_rfl) (vrow .u64 (setTo (soilB F U) 100)) _ HAD.out (by rw [List.drop_zero, List.take_length]) Try.underlying34 rfl (by rw [vrow_len, HL.out]; kernel_rfl)) ?_
    simp only [Act.put, List.setIfInBounds_toArray, List.set_cons_zero, List.set_cons_succ]
    refine wpK_take (i := 5) #[true, true, true, true, true, true, false, false, false] rfl (by kernel_rfl) hPB (y_call (v := .int .i64 (n : Int)) rfl Try.func22 (by kernel_rfl) rfl #[.agg (vrow .u64 (setTo (soilB F U) 100)).toArray] rfl (by simp only [List.map_toArray, List.map_cons, List.map_nil]; kernel_rfl) (fun w' h => by rw [Hn.out, ← HN.out]; exact countCells_any (setTo_ok (soilB F U)) w')) ?_
    simp only [Act.put, List.setIfInBounds_toArray, List.set_cons_zero, List.set_cons_succ]
    refine wpK_auto (i := 6) #[true, true, true, true, true, true, true, false, false] rfl (by kernel_rfl) hPB (fun K hK => ?_)
    go_simp
    refine hK _ ?_
    clear hK K
    refine wpK_auto (i := 7) #[true, true, true, true, true, true, true, true, false] rfl (by kernel_rfl) hPB (fun K hK => ?_)
    go_simp
    refine hK _ ?_
    clear hK K
    refine wpK_auto (i := 8) #[true, true, true, true, true, true, true, true, true] rfl (by kernel_rfl) hPB (fun K hK => ?_)
    go_simp
    refine hK _ ?_
    clear hK K
    refine wpK_done (by kernel_rfl) (fun w6 hu6 => ?_)
    have HC6 := Lib.hid (HD.out.step hu6)
    clear hPB hu6
    go_wp2
    go_ret2
    rw [HG'.out]
    exact ⟨rfl, HC6.out.below⟩
  · have HR : Hid (glRes F G U = (0, pairCode F G)) := Lib.hid (gl_code hq)
    have hq' : (pairCode F G != 0) = true := by simpa using hq
    go_wp2_with (first
      | (go_at_call 16; refine (lossCode_any F G HO.out HP.out _ _ _ (HC.out.blk (w.heap.size, F.vals, 32) (by simp)) (HC.out.blk (w.heap.size + 1, G.vals, 32) (by simp))).mono ?_; rintro e w2 ⟨rfl, hb⟩; have HC1 := Lib.hid (HC.out.step hb); clear hb))
    go_ret2
    rw [HR.out]
    exact ⟨rfl, HC1.out.below⟩

theorem soil_any (F : Fld) (hF : F.Ok) {i : Nat} (hi : i < 100) (g : Nat) (w : World) (hf : IsF w g F) :
    Calls Try.prog 21 #[.pointer (some ⟨g, 0, none⟩), .int .i64 (i : Int)] w fun e w' => e = .returned (.bool (soilS F i)) ∧ Below w.heap.size w w' := by
  have HF := Lib.hid hf
  have HO := Lib.hid hF
  have c1 := hf.ck hF hi
  clear hf hF
  unfold soilS
  cases hh : F.has (i : Int)
  · have HH := Lib.hid hh
    clear hh
    go_enter Try.func21, Try.ntmps21
    go_wp2_with (go_at_call 32; refine (is_any F _ _ _ HF.out HO.out).mono ?_; rintro e w' ⟨rfl, rfl⟩; rw [HH.out])
    go_ret
    exact ⟨by simp, Below.refl _ _⟩
  · have HH := Lib.hid hh
    clear hh
    go_enter Try.func21, Try.ntmps21
    go_wp2_with (go_at_call 32; refine (is_any F _ _ _ HF.out HO.out).mono ?_; rintro e w' ⟨rfl, rfl⟩; rw [HH.out])
    go_ret
    exact ⟨by simp, Below.refl _ _⟩
theorem soilB_no {F : Fld} {U : List Int} {j : Nat} (h : soilS F j = false) : soilB F U j = false := by unfold soilB; unfold soilS at h; rw [h, Bool.and_false]
theorem soilB_yes {F : Fld} {U : List Int} {j : Nat} (h : soilS F j = true) : soilB F U j = hasN U j := by unfold soilB; unfold soilS at h; rw [h, Bool.and_true]
/-- The sum so far. -/
def smN (F G : Fld) (U : List Int) (n : Nat) : Int := sumN (fun j => if soilB F U j = true then lsF F G j else 0) n
theorem smN_bd (F G : Fld) (U : List Int) (n : Nat) : -(32768 * (n : Int)) ≤ smN F G U n ∧ smN F G U n ≤ 32768 * (n : Int) := sumN_bd (by omega) (fun i => by
  show _ ≤ (if soilB F U i = true then lsF F G i else 0) ∧ (if soilB F U i = true then lsF F G i else 0) ≤ _
  have := lsF_bd F G i
  split <;> omega) n

set_option maxRecDepth 100000 in
set_option maxHeartbeats 4000000 in
theorem sGuess_any (F G : Fld) (hF : F.Ok) (hG : G.Ok) (U : List Int) (hU : ClOk U) (w : World) :
    Calls Try.prog 9 #[.agg F.vals.toArray, .agg G.vals.toArray, .agg (vrow .u64 U).toArray] w fun e w' => e = .returned (.tuple #[.int .i64 (glRes F G U).1, .int .i64 (glRes F G U).2]) ∧ Below w.heap.size w w' := by
  have HO := Lib.hid hF
  have HP := Lib.hid hG
  have HU := Lib.hid hU
  have hz2 := zeroA16
  clear hF hG hU
  go_enter Try.func9, Try.ntmps9
  go_upto_region 1 with (fail)
  obtain ⟨W, hW⟩ : ∃ W, W = ((w.alloc (.cells F.vals.toArray 32)).alloc (.cells G.vals.toArray 32)).alloc (.cells (vrow .u64 U).toArray 34) := ⟨_, rfl⟩
  have HC := Lib.hid (boxed3 w F.vals G.vals (vrow .u64 U) 32 32 34)
  rw [← hW] at HC ⊢
  clear hW
  by_cases hq : pairCode F G = 0
  · have HQ := Lib.hid hq
    have HLL := Lib.hid (lossList_len F G)
    clear hq
    go_wp2_with (first
      | (go_at_call 11; refine (l06Pair_any F G HO.out HP.out _ _ _ (HC.out.blk (w.heap.size, F.vals, 32) (by simp)) (HC.out.blk (w.heap.size + 1, G.vals, 32) (by simp))).mono ?_; rintro e w2 ⟨rfl, hb⟩; rw [HQ.out]; have HC1 := Lib.hid (HC.out.step hb); clear hb)
      | (go_at_call 12; refine (l06Loss_any F G HO.out HP.out _ _ _ (HC1.out.blk (w.heap.size, F.vals, 32) (by simp)) (HC1.out.blk (w.heap.size + 1, G.vals, 32) (by simp))).mono ?_; rintro e w3 ⟨rfl, hb⟩; have HC3 := Lib.hid (HC1.out.step hb); clear hb)
      | ((with_reducible refine gate_op (.store 25 (.tmp 9) (.tmp 18)) rfl ?_); refine wpList_store_all rfl 25 (.tmp 9) (.tmp 18) rfl _ (vrow .i16 (lossList F G)) (by kernel_rfl) (by kernel_rfl) (Blk.new' _ (zrow .i16 100) 25) (by rw [vrow_len, zrow_len, HLL.out]) (by rw [vrow_len, HLL.out]; kernel_rfl) (vrow_one _ _) ?_; refine wpl_name (fun w' => Below w3.heap.size w3 w' ∧ Blk w' w3.heap.size (vrow .i16 (lossList F G)) 25) ⟨below_setRow ((Below.refl _ _).alloc (Nat.le_refl _) _) (Nat.le_refl _) _, (Blk.new' _ _ _).row _⟩ ?_; rintro w4 ⟨hb, hK⟩; have HA4 := Lib.hid hK; have HC4 := Lib.hid (HC3.out.step hb); clear hb hK))
    go_loopw [10, 11, 12, 13] (fun s n u v wr => ∃ i : Nat, i ≤ 100 ∧ v = .int .i64 i ∧ s = .int .i64 ((cntN (soilS F) i : Nat) : Int) ∧ n = .int .i64 ((cntN (soilB F U) i : Nat) : Int) ∧ u = .int .i64 (smN F G U i) ∧ Hid (Below w4.heap.size w4 wr)) (fun _ _ _ v _ => 100 - (intOf v).toNat)
    case atStart => exact ⟨0, by omega, rfl, rfl, rfl, rfl, Lib.hid (Below.refl _ _)⟩
    case round =>
      obtain ⟨i, hi, rfl, rfl, rfl, rfl, HB⟩ := hrel
      by_cases hlt : i < 100
      · obtain ⟨a0, a1⟩ := smN_bd F G U i
        obtain ⟨l0, l1⟩ := lsF_bd F G i
        have c0 := cntN_le (soilS F) i
        have c1 := cntN_le (soilB F U) i
        cases hh : soilS F i
        · have HH := Lib.hid hh
          have HB1 := soilB_no (U := U) hh
          have HN1 : Hid (cntN (soilS F) (i + 1) = cntN (soilS F) i) := Lib.hid (by simp only [cntN]; rw [hh]; simp)
          have HN2 : Hid (cntN (soilB F U) (i + 1) = cntN (soilB F U) i) := Lib.hid (by simp only [cntN]; rw [HB1]; simp)
          have HN3 : Hid (smN F G U (i + 1) = smN F G U i) := Lib.hid (by unfold smN; simp only [sumN]; rw [HB1]; simp)
          clear hh HB1
          go_wp2_with (go_at_call 21; refine (soil_any F HO.out hlt _ _ ((HC4.out.step HB.out).blk (w.heap.size, F.vals, 32) (by simp))).mono ?_; rintro e w5 ⟨rfl, hb⟩; rw [HH.out]; have HB5 := Lib.hid (HB.out.trans (hb.mono HB.out.size)); clear hb)
          go_roundw
          case rel => exact ⟨i + 1, by omega, by go_num, by rw [HN1.out], by rw [HN2.out], by rw [HN3.out], HB5⟩
          case measure => simp only [intOf]; omega
        · have HH := Lib.hid hh
          have HB1 := soilB_yes (U := U) hh
          have HN1 : Hid (cntN (soilS F) (i + 1) = cntN (soilS F) i + 1) := Lib.hid (by simp only [cntN]; rw [hh]; simp)
          clear hh
          cases hu : hasN U i
          · have HV := Lib.hid hu
            have HN2 : Hid (cntN (soilB F U) (i + 1) = cntN (soilB F U) i) := Lib.hid (by simp only [cntN]; rw [HB1, hu]; simp)
            have HN3 : Hid (smN F G U (i + 1) = smN F G U i) := Lib.hid (by unfold smN; simp only [sumN]; rw [HB1, hu]; simp)
            clear hu HB1
            generalize smN F G U i = x at *
            generalize cntN (soilS F) i = c at *
            generalize cntN (soilB F U) i = d at *
            go_wp2_with (first
              | (go_at_call 21; refine (soil_any F HO.out hlt _ _ ((HC4.out.step HB.out).blk (w.heap.size, F.vals, 32) (by simp))).mono ?_; rintro e w5 ⟨rfl, hb⟩; rw [HH.out]; have HB5 := Lib.hid (HB.out.trans (hb.mono HB.out.size)); clear hb)
              | (go_at_call 13; refine (l01Has_any HU.out hlt _ _ ((HC4.out.step HB5.out).blk (w.heap.size + 1 + 1, vrow .u64 U, 34) (by simp))).mono ?_; rintro e w6 ⟨rfl, hb⟩; rw [HV.out]; have HB6 := Lib.hid (HB5.out.trans (hb.mono HB5.out.size)); clear hb))
            go_roundw
            case rel => exact ⟨i + 1, by omega, by go_num, by (rw [HN1.out]; go_num), by rw [HN2.out], by rw [HN3.out], HB6⟩
            case measure => simp only [intOf]; omega
          · have HV := Lib.hid hu
            have HN2 : Hid (cntN (soilB F U) (i + 1) = cntN (soilB F U) i + 1) := Lib.hid (by simp only [cntN]; rw [HB1, hu]; simp)
            have HN3 : Hid (smN F G U (i + 1) = smN F G U i + lsF F G i) := Lib.hid (by unfold smN; simp only [sumN]; rw [HB1, hu]; simp)
            clear hu HB1
            generalize smN F G U i = x at *
            generalize cntN (soilS F) i = c at *
            generalize cntN (soilB F U) i = d at *
            generalize hls : lsF F G i = z at *
            have ez : IntKind.i64.wrap z = z := by rw [IntKind.wrap_i64]; omega
            have ea : wrap64 (x + z) = x + z := by unfold wrap64; omega
            go_wp2_with (first
              | (go_at_call 21; refine (soil_any F HO.out hlt _ _ ((HC4.out.step HB.out).blk (w.heap.size, F.vals, 32) (by simp))).mono ?_; rintro e w5 ⟨rfl, hb⟩; rw [HH.out]; have HB5 := Lib.hid (HB.out.trans (hb.mono HB.out.size)); clear hb)
              | (go_at_call 13; refine (l01Has_any HU.out hlt _ _ ((HC4.out.step HB5.out).blk (w.heap.size + 1 + 1, vrow .u64 U, 34) (by simp))).mono ?_; rintro e w6 ⟨rfl, hb⟩; rw [HV.out]; have HB6 := Lib.hid (HB5.out.trans (hb.mono HB5.out.size)); have cl6 : w6.cell? ⟨w3.heap.size, i, none⟩ = some (.int .i16 z) := (HA4.out.below HB6.out HA4.out.lt).cell (vrow_get (k := .i16) (zs := lossList F G) (i := i) (by rw [HLL.out]; exact hlt)) |>.trans (by show some (Value.int .i16 (lsF F G i)) = _; rw [hls]); clear hb))
            go_roundw
            case rel => exact ⟨i + 1, by omega, by go_num, by (rw [HN1.out]; go_num), by (rw [HN2.out]; go_num), by rw [HN3.out], HB6⟩
            case measure => simp only [intOf]; omega
      · obtain rfl : i = 100 := by omega
        obtain ⟨n, hn⟩ : ∃ n, n = cntN (soilB F U) 100 := ⟨_, rfl⟩
        obtain ⟨s0, s1⟩ := smp_bd F G U
        have esm : smN F G U 100 = smp F G U := rfl
        have HG0 : Hid (n = 0 → glRes F G U = (0, 6)) := Lib.hid (fun h => gl_zero HQ.out (by rw [← hn]; exact h))
        have HG1 : Hid (n ≠ 0 → glRes F G U = ((smp F G U * ((cntN (soilS F) 100 : Nat) : Int)).tdiv (n : Int), 0)) := Lib.hid (fun h => by rw [hn]; exact gl_pos HQ.out (by rw [← hn]; exact h))
        rw [← hn, esm]
        clear hn esm
        obtain ⟨s, hs⟩ : ∃ s, s = cntN (soilS F) 100 := ⟨_, rfl⟩
        have ls : s ≤ 100 := by rw [hs]; exact cntN_le _ _
        rw [← hs] at HG1 ⊢
        clear hs
        generalize smp F G U = x at *
        by_cases h0 : n = 0
        · subst h0
          have HG := Lib.hid (HG0.out rfl)
          go_wp2
          go_ret2
          rw [HG.out]
          exact ⟨rfl, (HC4.out.step HB.out).below⟩
        · have HG := Lib.hid (HG1.out h0)
          have hn0 : ((n : Int) == 0) = false := by rw [beq_eq_false_iff_ne]; omega
          obtain ⟨m0, m1⟩ := mul_bd s0 s1 ls
          have em : wrap64 (x * (s : Int)) = x * (s : Int) := by unfold wrap64; omega
          generalize hp : x * (s : Int) = p at *
          obtain ⟨d0, d1⟩ := tdiv_bd (m := n) m0 m1
          have ed : wrap64 (p.tdiv (n : Int)) = p.tdiv (n : Int) := by unfold wrap64; omega
          go_wp2
          go_ret2
          rw [HG.out]
          exact ⟨rfl, (HC4.out.step HB.out).below⟩
  · have HR : Hid (glRes F G U = (0, pairCode F G)) := Lib.hid (gl_code hq)
    have hq' : (pairCode F G != 0) = true := by simpa using hq
    go_wp2_with (first
      | (go_at_call 11; refine (l06Pair_any F G HO.out HP.out _ _ _ (HC.out.blk (w.heap.size, F.vals, 32) (by simp)) (HC.out.blk (w.heap.size + 1, G.vals, 32) (by simp))).mono ?_; rintro e w2 ⟨rfl, hb⟩; have HC1 := Lib.hid (HC.out.step hb); clear hb))
    go_ret2
    rw [HR.out]
    exact ⟨rfl, HC1.out.below⟩
end Go.Proofs.Ytalmlgkedcdkdaa
