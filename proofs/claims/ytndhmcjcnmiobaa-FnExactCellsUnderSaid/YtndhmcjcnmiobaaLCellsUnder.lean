/- The law FnExactCellsUnder, walked: the program and the reference answer the same. No condition. -/
import Derived.Test.YtndhmcjcnmiobaaGB
import Derived.Test.YtndhmcjcnmiobaaGA
import Derived.Test.YtndhmcjcnmiobaaA5
namespace Go.Proofs.Ytndhmcjcnmiobaa.LCellsUnder
open Go.RowKit
set_option linter.unusedSimpArgs false
set_option linter.unusedVariables false

set_option maxHeartbeats 1000000 in
theorem walk (cs0 : List Value) (i0 : R.Ints fldKinds cs0) (cs1 : List Value) (i1 : R.Ints [.i8,.i8,.i8,.i8] cs1) (w : World) :
    Calls Try.prog 6 #[.agg cs0.toArray, .agg cs1.toArray] w fun e w' => e = .returned (.bool true) ∧ Below w.heap.size w w' := by
  obtain ⟨F, hF', rfl⟩ := fld_of_ints i0
  have hF := Lib.hid hF'
  clear i0 hF'
  obtain ⟨n, hn', rfl⟩ := net_of_ints i1
  have hn := Lib.hid hn'
  clear i1 hn'
  obtain ⟨V, hV⟩ : ∃ V, V = undRes F n := ⟨_, rfl⟩
  have HSp' := fun w1 => sUnder_any F hF.out n hn.out w1
  have HIm' := fun w1 => iUnder_any F hF.out n hn.out w1
  have hVl' := undRes_len F n
  rw [← hV] at HSp' HIm' hVl'
  clear hV
  have HSp := Lib.hid HSp'
  clear HSp'
  have HIm := Lib.hid HIm'
  clear HIm'
  have hVl := Lib.hid hVl'
  clear hVl'
  go_enter Try.func6, Try.ntmps6
  go_upto_region 1 with (fail)
  obtain ⟨W, hW⟩ : ∃ W, W = (w.alloc (.cells F.vals.toArray 27)).alloc (.cells n.vals.toArray 38) := ⟨_, rfl⟩
  have HC := Lib.hid (boxed2 w F.vals n.vals 27 38)
  rw [← hW] at HC ⊢
  clear hW
  refine wp_region_K 9 11 #[false, false, false, false, false, false, false, false, false, false, false] (by kernel_rfl) (by kernel_rfl) (fun _ _ _ _ hd h => ⟨hd.symm.trans h.1, h.2⟩) (fun hPB => ?_)
  have HK := Lib.hid HC.out.drew
  refine wpK_take (i := 0) (v := .agg F.vals.toArray) #[true, false, false, false, false, false, false, false, false, false, false] rfl (by kernel_rfl) hPB (y_load rfl 27 (.tmp 2) rfl (w.heap.size) 0 (by kernel_rfl) F.vals _ (HK.out.blk (w.heap.size, F.vals, 27) (List.Mem.head _)) (by rw [List.drop_zero, List.take_length]) Try.underlying27 rfl (by rw [hF.out.len]; kernel_rfl)) ?_
  simp only [Act.put, List.setIfInBounds_toArray, List.set_cons_zero, List.set_cons_succ]
  refine wpK_take (i := 1) (v := .agg F.vals.toArray) #[true, true, false, false, false, false, false, false, false, false, false] rfl (by kernel_rfl) hPB (y_call (v := .agg F.vals.toArray) rfl Try.func11 (by kernel_rfl) rfl #[.agg F.vals.toArray] rfl (by simp only [List.map_toArray, List.map_cons, List.map_nil]; kernel_rfl) (fun w1 _ => toField_any F hF.out w1)) ?_
  simp only [Act.put, List.setIfInBounds_toArray, List.set_cons_zero, List.set_cons_succ]
  refine wpK_take (i := 2) (v := .agg n.vals.toArray) #[true, true, true, false, false, false, false, false, false, false, false] rfl (by kernel_rfl) hPB (y_load rfl 38 (.tmp 3) rfl (w.heap.size + 1) 0 (by kernel_rfl) n.vals _ (HK.out.blk (w.heap.size + 1, n.vals, 38) (List.Mem.tail _ (List.Mem.head _))) (by rw [List.drop_zero, List.take_length]) Try.underlying38 rfl (by kernel_rfl)) ?_
  simp only [Act.put, List.setIfInBounds_toArray, List.set_cons_zero, List.set_cons_succ]
  refine wpK_take (i := 3) (v := .agg n.vals.toArray) #[true, true, true, true, false, false, false, false, false, false, false] rfl (by kernel_rfl) hPB (y_call (v := .agg n.vals.toArray) rfl Try.func16 (by kernel_rfl) rfl #[.agg n.vals.toArray] rfl (by simp only [List.map_toArray, List.map_cons, List.map_nil]; kernel_rfl) (fun w1 _ => toNet_any n w1)) ?_
  simp only [Act.put, List.setIfInBounds_toArray, List.set_cons_zero, List.set_cons_succ]
  refine wpK_take (i := 4) (v := .tuple #[.agg (vrow .u64 V.1).toArray, .int .i64 V.2]) #[true, true, true, true, true, false, false, false, false, false, false] rfl (by kernel_rfl) hPB (y_call (v := .tuple #[.agg (vrow .u64 V.1).toArray, .int .i64 V.2]) rfl Try.func20 (by kernel_rfl) rfl #[.agg F.vals.toArray, .agg n.vals.toArray] rfl (by simp only [List.map_toArray, List.map_cons, List.map_nil]; kernel_rfl) (fun w1 _ => HSp.out w1)) ?_
  simp only [Act.put, List.setIfInBounds_toArray, List.set_cons_zero, List.set_cons_succ]
  refine wpK_any (i := 5) (v := .tuple #[.agg (vrow .u64 V.1).toArray, .int .i64 V.2]) #[true, true, true, true, true, true, false, false, false, false, false] rfl (by kernel_rfl) hPB (fun _ => (y_move (v := .tuple #[.agg (vrow .u64 V.1).toArray, .int .i64 V.2]) rfl (.tmp 14) rfl (by kernel_rfl))) ?_
  simp only [Act.put, List.setIfInBounds_toArray, List.set_cons_zero, List.set_cons_succ]
  refine wpK_any (i := 6) (v := .agg (vrow .u64 V.1).toArray) #[true, true, true, true, true, true, true, false, false, false, false] rfl (by kernel_rfl) hPB (fun _ => (y_extract (v := .agg (vrow .u64 V.1).toArray) rfl (.tmp 9) 0 rfl #[.agg (vrow .u64 V.1).toArray, .int .i64 V.2] (by kernel_rfl) (by simp))) ?_
  simp only [Act.put, List.setIfInBounds_toArray, List.set_cons_zero, List.set_cons_succ]
  refine wpK_any (i := 7) (v := .int .i64 V.2) #[true, true, true, true, true, true, true, true, false, false, false] rfl (by kernel_rfl) hPB (fun _ => (y_extract (v := .int .i64 V.2) rfl (.tmp 9) 1 rfl #[.agg (vrow .u64 V.1).toArray, .int .i64 V.2] (by kernel_rfl) (by simp))) ?_
  simp only [Act.put, List.setIfInBounds_toArray, List.set_cons_zero, List.set_cons_succ]
  refine wpK_only (i := 8) #[true, true, true, true, true, true, true, true, true, false, false] (by kernel_rfl) (fun w2a hu => ?_)
  have HKa := Lib.hid (HK.out.step hu)
  clear hu
  refine k_alloc rfl rfl 47 rfl (zrow .u64 2) (zeroCells _) ⟨fun _ => (Below.refl _ _).alloc (Nat.le_refl _) _, ?_⟩
  simp only [Act.put, List.setIfInBounds_toArray, List.set_cons_zero, List.set_cons_succ]
  refine wpK_only (i := 9) #[true, true, true, true, true, true, true, true, true, true, false] (by kernel_rfl) (fun w2b hu => ?_)
  have HN := Lib.hid ((Blk.new' w2a (zrow .u64 2) 47).below hu (Blk.new' w2a (zrow .u64 2) 47).lt)
  have HKb := Lib.hid ((HKa.out.alloc _).step hu)
  clear hu
  refine k_store_all rfl rfl 47 (.tmp 5) (.tmp 15) rfl w2a.heap.size (vrow .u64 V.1) (by kernel_rfl) (by kernel_rfl) HN.out (by rw [vrow_len, zrow_len, hVl.out]) (by rw [vrow_len, hVl.out]; kernel_rfl) (vrow_one _ _) ⟨fun h => absurd h (by decide), ?_⟩
  simp only [Act.put, List.setIfInBounds_toArray, List.set_cons_zero, List.set_cons_succ]
  refine wpK_only (i := 10) #[true, true, true, true, true, true, true, true, true, true, true] (by kernel_rfl) (fun w2c hu => ?_)
  have HE := Lib.hid ((HKb.out.row' (vrow .u64 V.1).toArray HKa.out.below.size (fun x hx => Nat.ne_of_lt (HKa.out.lt x hx))).step hu)
  have HR := Lib.hid ((HN.out.row (vrow .u64 V.1)).below hu (HN.out.row (vrow .u64 V.1)).lt)
  clear hu
  refine k_assign rfl rfl (.tmp 16) rfl (.int .i64 V.2) (by kernel_rfl) ⟨fun h => absurd h (by decide), ?_⟩
  simp only [Act.put, List.setIfInBounds_toArray, List.set_cons_zero, List.set_cons_succ]
  refine wpK_done (by kernel_rfl) (fun w2 hu => ?_)
  have HF' : Hid (Cls w [(w.heap.size, F.vals, 27), (w.heap.size + 1, n.vals, 38), (w2a.heap.size, (vrow .u64 V.1), 47)] w2) := Lib.hid ((HE.out.step hu).add (HR.out.below hu HR.out.lt))
  clear hu HC HK HKa HKb HE HR HN hPB
  have HC := HF'
  clear HF'
  go_upto_region 2 with (fail)
  refine wp_region_K 9 11 #[false, false, false, false, false, false, false, false, false, false, false] (by kernel_rfl) (by kernel_rfl) (fun _ _ _ _ hd h => ⟨hd.symm.trans h.1, h.2⟩) (fun hPB => ?_)
  have HK := Lib.hid HC.out.drew
  refine wpK_take (i := 0) (v := .agg F.vals.toArray) #[true, false, false, false, false, false, false, false, false, false, false] rfl (by kernel_rfl) hPB (y_load rfl 27 (.tmp 2) rfl (w.heap.size) 0 (by kernel_rfl) F.vals _ (HK.out.blk (w.heap.size, F.vals, 27) (List.Mem.head _)) (by rw [List.drop_zero, List.take_length]) Try.underlying27 rfl (by rw [hF.out.len]; kernel_rfl)) ?_
  simp only [Act.put, List.setIfInBounds_toArray, List.set_cons_zero, List.set_cons_succ]
  refine wpK_take (i := 1) (v := .agg F.vals.toArray) #[true, true, false, false, false, false, false, false, false, false, false] rfl (by kernel_rfl) hPB (y_call (v := .agg F.vals.toArray) rfl Try.func11 (by kernel_rfl) rfl #[.agg F.vals.toArray] rfl (by simp only [List.map_toArray, List.map_cons, List.map_nil]; kernel_rfl) (fun w1 _ => toField_any F hF.out w1)) ?_
  simp only [Act.put, List.setIfInBounds_toArray, List.set_cons_zero, List.set_cons_succ]
  refine wpK_take (i := 2) (v := .agg n.vals.toArray) #[true, true, true, false, false, false, false, false, false, false, false] rfl (by kernel_rfl) hPB (y_load rfl 38 (.tmp 3) rfl (w.heap.size + 1) 0 (by kernel_rfl) n.vals _ (HK.out.blk (w.heap.size + 1, n.vals, 38) (List.Mem.tail _ (List.Mem.head _))) (by rw [List.drop_zero, List.take_length]) Try.underlying38 rfl (by kernel_rfl)) ?_
  simp only [Act.put, List.setIfInBounds_toArray, List.set_cons_zero, List.set_cons_succ]
  refine wpK_take (i := 3) (v := .agg n.vals.toArray) #[true, true, true, true, false, false, false, false, false, false, false] rfl (by kernel_rfl) hPB (y_call (v := .agg n.vals.toArray) rfl Try.func16 (by kernel_rfl) rfl #[.agg n.vals.toArray] rfl (by simp only [List.map_toArray, List.map_cons, List.map_nil]; kernel_rfl) (fun w1 _ => toNet_any n w1)) ?_
  simp only [Act.put, List.setIfInBounds_toArray, List.set_cons_zero, List.set_cons_succ]
  refine wpK_take (i := 4) (v := .tuple #[.agg (vrow .u64 V.1).toArray, .int .i64 V.2]) #[true, true, true, true, true, false, false, false, false, false, false] rfl (by kernel_rfl) hPB (y_call (v := .tuple #[.agg (vrow .u64 V.1).toArray, .int .i64 V.2]) rfl Try.func21 (by kernel_rfl) rfl #[.agg F.vals.toArray, .agg n.vals.toArray] rfl (by simp only [List.map_toArray, List.map_cons, List.map_nil]; kernel_rfl) (fun w1 _ => HIm.out w1)) ?_
  simp only [Act.put, List.setIfInBounds_toArray, List.set_cons_zero, List.set_cons_succ]
  refine wpK_any (i := 5) (v := .tuple #[.agg (vrow .u64 V.1).toArray, .int .i64 V.2]) #[true, true, true, true, true, true, false, false, false, false, false] rfl (by kernel_rfl) hPB (fun _ => (y_move (v := .tuple #[.agg (vrow .u64 V.1).toArray, .int .i64 V.2]) rfl (.tmp 22) rfl (by kernel_rfl))) ?_
  simp only [Act.put, List.setIfInBounds_toArray, List.set_cons_zero, List.set_cons_succ]
  refine wpK_any (i := 6) (v := .agg (vrow .u64 V.1).toArray) #[true, true, true, true, true, true, true, false, false, false, false] rfl (by kernel_rfl) hPB (fun _ => (y_extract (v := .agg (vrow .u64 V.1).toArray) rfl (.tmp 17) 0 rfl #[.agg (vrow .u64 V.1).toArray, .int .i64 V.2] (by kernel_rfl) (by simp))) ?_
  simp only [Act.put, List.setIfInBounds_toArray, List.set_cons_zero, List.set_cons_succ]
  refine wpK_any (i := 7) (v := .int .i64 V.2) #[true, true, true, true, true, true, true, true, false, false, false] rfl (by kernel_rfl) hPB (fun _ => (y_extract (v := .int .i64 V.2) rfl (.tmp 17) 1 rfl #[.agg (vrow .u64 V.1).toArray, .int .i64 V.2] (by kernel_rfl) (by simp))) ?_
  simp only [Act.put, List.setIfInBounds_toArray, List.set_cons_zero, List.set_cons_succ]
  refine wpK_only (i := 8) #[true, true, true, true, true, true, true, true, true, false, false] (by kernel_rfl) (fun w3a hu => ?_)
  have HKa := Lib.hid (HK.out.step hu)
  clear hu
  refine k_alloc rfl rfl 47 rfl (zrow .u64 2) (zeroCells _) ⟨fun _ => (Below.refl _ _).alloc (Nat.le_refl _) _, ?_⟩
  simp only [Act.put, List.setIfInBounds_toArray, List.set_cons_zero, List.set_cons_succ]
  refine wpK_only (i := 9) #[true, true, true, true, true, true, true, true, true, true, false] (by kernel_rfl) (fun w3b hu => ?_)
  have HN := Lib.hid ((Blk.new' w3a (zrow .u64 2) 47).below hu (Blk.new' w3a (zrow .u64 2) 47).lt)
  have HKb := Lib.hid ((HKa.out.alloc _).step hu)
  clear hu
  refine k_store_all rfl rfl 47 (.tmp 7) (.tmp 23) rfl w3a.heap.size (vrow .u64 V.1) (by kernel_rfl) (by kernel_rfl) HN.out (by rw [vrow_len, zrow_len, hVl.out]) (by rw [vrow_len, hVl.out]; kernel_rfl) (vrow_one _ _) ⟨fun h => absurd h (by decide), ?_⟩
  simp only [Act.put, List.setIfInBounds_toArray, List.set_cons_zero, List.set_cons_succ]
  refine wpK_only (i := 10) #[true, true, true, true, true, true, true, true, true, true, true] (by kernel_rfl) (fun w3c hu => ?_)
  have HE := Lib.hid ((HKb.out.row' (vrow .u64 V.1).toArray HKa.out.below.size (fun x hx => Nat.ne_of_lt (HKa.out.lt x hx))).step hu)
  have HR := Lib.hid ((HN.out.row (vrow .u64 V.1)).below hu (HN.out.row (vrow .u64 V.1)).lt)
  clear hu
  refine k_assign rfl rfl (.tmp 24) rfl (.int .i64 V.2) (by kernel_rfl) ⟨fun h => absurd h (by decide), ?_⟩
  simp only [Act.put, List.setIfInBounds_toArray, List.set_cons_zero, List.set_cons_succ]
  refine wpK_done (by kernel_rfl) (fun w3 hu => ?_)
  have HF' : Hid (Cls w [(w.heap.size, F.vals, 27), (w.heap.size + 1, n.vals, 38), (w2a.heap.size, (vrow .u64 V.1), 47), (w3a.heap.size, (vrow .u64 V.1), 47)] w3) := Lib.hid ((HE.out.step hu).add (HR.out.below hu HR.out.lt))
  clear hu HC HK HKa HKb HE HR HN hPB
  have HC := HF'
  clear HF'
  have hV0 : (V.2 != V.2) = false := by simp
  go_wp2_with (first
    | ((with_reducible refine gate_op (.load 47 (.tmp 5)) rfl ?_); with_reducible refine wpList_load_blk rfl 47 (.tmp 5) rfl (w2a.heap.size) 0 (by kernel_rfl) (vrow .u64 V.1) _ (HC.out.blk (w2a.heap.size, (vrow .u64 V.1), 47) (List.Mem.tail _ (List.Mem.tail _ (List.Mem.head _)))) (by rw [List.drop_zero, List.take_length]) Try.underlying47 rfl (by rw [vrow_len, hVl.out]; kernel_rfl) ?_)
    | ((with_reducible refine gate_op (.load 47 (.tmp 7)) rfl ?_); with_reducible refine wpList_load_blk rfl 47 (.tmp 7) rfl (w3a.heap.size) 0 (by kernel_rfl) (vrow .u64 V.1) _ (HC.out.blk (w3a.heap.size, (vrow .u64 V.1), 47) (List.Mem.tail _ (List.Mem.tail _ (List.Mem.tail _ (List.Mem.head _))))) (by rw [List.drop_zero, List.take_length]) Try.underlying47 rfl (by rw [vrow_len, hVl.out]; kernel_rfl) ?_)
    | (go_at_call 22; (with_reducible refine (eqCells_any _ _ hVl.out hVl.out rfl _).mono ?_); rintro e w4 ⟨rfl, hb⟩; have HC2 := Lib.hid (HC.out.step hb); clear hb))
  go_ret
  exact ⟨rfl, HC2.out.below⟩

end Go.Proofs.Ytndhmcjcnmiobaa.LCellsUnder
