/- Flocks: what the program says of their numbers. No condition but that the numbers are within their kinds. -/
import Derived.Test.YtlhiaofanejcoaaL1
import Derived.Test.YtlhiaofanejcoaaL2
import Derived.Test.YtlhiaofanejcoaaG2
import Derived.Test.YtlhiaofanejcoaaPAllx4
import Derived.Deep.RegionHeld3
namespace Go.Proofs.Ytlhiaofanejcoaa
open Go.RowKit Go.Proofs.YtlhiaofanejcoaaW.PrintWords Go.Proofs.YtlhiaofanejcoaaW.PrintLast Go.Proofs.YtlhiaofanejcoaaW.PrintMore Go.Proofs.Ytlhiaofanejcoaa.PAll
set_option linter.unusedSimpArgs false
set_option linter.unusedVariables false

/-- A flock's numbers are within their kinds. -/
structure FlkOk (x : S39) : Prop where
  a0 : -32768 ≤ x.f0
  a1 : x.f0 ≤ 32767
  b0 : -32768 ≤ x.f1
  b1 : x.f1 ≤ 32767
  c0 : -32768 ≤ x.f2
  c1 : x.f2 ≤ 32767
  d0 : -32768 ≤ x.f3
  d1 : x.f3 ≤ 32767
  e0 : -32768 ≤ x.f4
  e1 : x.f4 ≤ 32767
  g0 : -128 ≤ x.f5
  g1 : x.f5 ≤ 127
def flkVals (x : S39) : List Value := [.int .i16 x.f0, .int .i16 x.f1, .int .i16 x.f2, .int .i16 x.f3, .int .i16 x.f4, .int .i8 x.f5]
def flkNums (x : S39) : List Int := [x.f0, x.f1, x.f2, x.f3, x.f4, x.f5]
def flkMost : List Int := [99, 200, 20, 1000, 200, 2]
theorem zero6 (w : World) : (zeroValue 121).run Try.prog w = .ok (.agg (zrow .i64 6).toArray) w := (zero_of_info (by kernel_rfl : (Try.prog.info? 121).map (fun i => (i.zero, i.size)) = some (some (.agg (zrow .i64 6).toArray), 6))).1 w

/-- A body that ends with two results that lie in blocks. -/
theorem post_cc {P : Program} {fn : Func} {R : Ending → World → Prop} {a : Act} {w : World} {p q : Tmp} {ty T ty' U : TypeId} {g g' : Nat} {cs ds : List Value} {d d' : TypeDesc} (hr : fn.results = #[.cell p ty, .cell q ty']) (hd : a.defers = [])
    (hp : a.tmps.getD p undef = .pointer (some ⟨g, 0, none⟩)) (hq : a.tmps.getD q undef = .pointer (some ⟨g', 0, none⟩)) (hB : Blk w g cs T) (hB' : Blk w g' ds U)
    (hu : P.underlying ty = some d) (hd1 : d.isRow = true) (hi : (P.info? ty).map (·.size) = some cs.length) (hu' : P.underlying ty' = some d') (hd2 : d'.isRow = true) (hi' : (P.info? ty').map (·.size) = some ds.length)
    (h : R (.returned (.tuple #[.agg cs.toArray, .agg ds.toArray])) w) : bodyPost P fn R .ret a w :=
  ⟨hd, _, results_cc hr a.tmps w g g' T U cs.toArray ds.toArray (0, 0) (0, 0) d d' hp hB hu (by cases d <;> simp_all [TypeDesc.isRow]) (by simpa using hi) hq hB' hu' (by cases d' <;> simp_all [TypeDesc.isRow]) (by simpa using hi'), h⟩

set_option maxHeartbeats 2000000 in
set_option maxRecDepth 100000 in
theorem numbersOf_any (x : S39) (hx : FlkOk x) (g : Nat) (w : World) (hB : Blk w g (flkVals x) 39) :
    Calls Try.prog 97 #[.pointer (some ⟨g, 0, none⟩)] w fun e w' => e = .returned (.tuple #[.agg (vrow .i64 (flkNums x)).toArray, .agg (vrow .i64 flkMost).toArray]) ∧ Below w.heap.size w w' := by
  have hz := zero6
  obtain ⟨a0, a1, b0, b1, c0, c1, d0, d1, e0, e1, g0, g1⟩ := hx
  go_enter Try.func97, Try.ntmps97
  go_upto_region 1 with (fail)
  obtain ⟨W, hW⟩ : ∃ W, W = (w.alloc (.cells (zrow .i64 6).toArray 121)).alloc (.cells (zrow .i64 6).toArray 121) := ⟨_, rfl⟩
  have HC := Lib.hid (boxed2 w (zrow .i64 6) (zrow .i64 6) 121 121)
  have hBW : Blk W g (flkVals x) 39 := by rw [hW]; exact (hB.alloc _).alloc _
  have hlt := hB.lt
  rw [← hW] at HC ⊢
  clear hW
  have e0 : IntKind.i64.wrap x.f0 = x.f0 := by rw [IntKind.wrap_i64]; omega
  have e1 : IntKind.i64.wrap x.f1 = x.f1 := by rw [IntKind.wrap_i64]; omega
  have e2 : IntKind.i64.wrap x.f2 = x.f2 := by rw [IntKind.wrap_i64]; omega
  have e3 : IntKind.i64.wrap x.f3 = x.f3 := by rw [IntKind.wrap_i64]; omega
  have e4 : IntKind.i64.wrap x.f4 = x.f4 := by rw [IntKind.wrap_i64]; omega
  have e5 : IntKind.i64.wrap x.f5 = x.f5 := by rw [IntKind.wrap_i64]; omega
  refine wp_region_K 32 34 #[false, false, false, false, false, false, false, false, false, false, false, false, false, false, false, false, false, false, false, false, false, false, false, false, false, false, false, false, false, false, false, false, false, false] (by kernel_rfl) (by kernel_rfl) (fun _ _ _ _ hd h => ⟨hd.symm.trans h.1, h.2⟩) (fun hPB => ?_)
  have HW := Lib.hid (show Blk W.drew g (flkVals x) 39 from hBW)
  have HCD := Lib.hid HC.out.drew
  clear hB hBW
  refine wpK_auto (i := 0) #[true, false, false, false, false, false, false, false, false, false, false, false, false, false, false, false, false, false, false, false, false, false, false, false, false, false, false, false, false, false, false, false, false, false] rfl (by kernel_rfl) hPB (fun K hK => ?_)
  go_simp
  refine hK _ ?_
  clear hK K
  refine wpK_auto (i := 1) #[true, true, false, false, false, false, false, false, false, false, false, false, false, false, false, false, false, false, false, false, false, false, false, false, false, false, false, false, false, false, false, false, false, false] rfl (by kernel_rfl) hPB (fun K hK => ?_)
  go_simp
  refine hK _ ?_
  clear hK K
  refine wpK_auto (i := 2) #[true, true, true, false, false, false, false, false, false, false, false, false, false, false, false, false, false, false, false, false, false, false, false, false, false, false, false, false, false, false, false, false, false, false] rfl (by kernel_rfl) hPB (fun K hK => ?_)
  go_simp
  refine hK _ ?_
  clear hK K
  refine wpK_take (i := 3) #[true, true, true, true, false, false, false, false, false, false, false, false, false, false, false, false, false, false, false, false, false, false, false, false, false, false, false, false, false, false, false, false, false, false] rfl (by kernel_rfl) hPB (y_cell rfl 24 (.tmp 6) rfl g 0 (by kernel_rfl) HW.out (z := x.f0) rfl Try.underlying24) ?_
  simp only [Act.put, List.setIfInBounds_toArray, List.set_cons_zero, List.set_cons_succ]
  refine wpK_auto (i := 4) #[true, true, true, true, true, false, false, false, false, false, false, false, false, false, false, false, false, false, false, false, false, false, false, false, false, false, false, false, false, false, false, false, false, false] rfl (by kernel_rfl) hPB (fun K hK => ?_)
  go_simp
  refine hK _ ?_
  clear hK K
  refine wpK_auto (i := 5) #[true, true, true, true, true, true, false, false, false, false, false, false, false, false, false, false, false, false, false, false, false, false, false, false, false, false, false, false, false, false, false, false, false, false] rfl (by kernel_rfl) hPB (fun K hK => ?_)
  go_simp
  refine hK _ ?_
  clear hK K
  refine wpK_auto (i := 6) #[true, true, true, true, true, true, true, false, false, false, false, false, false, false, false, false, false, false, false, false, false, false, false, false, false, false, false, false, false, false, false, false, false, false] rfl (by kernel_rfl) hPB (fun K hK => ?_)
  go_simp
  refine hK _ ?_
  clear hK K
  refine wpK_auto (i := 7) #[true, true, true, true, true, true, true, true, false, false, false, false, false, false, false, false, false, false, false, false, false, false, false, false, false, false, false, false, false, false, false, false, false, false] rfl (by kernel_rfl) hPB (fun K hK => ?_)
  go_simp
  refine hK _ ?_
  clear hK K
  refine wpK_take (i := 8) #[true, true, true, true, true, true, true, true, true, false, false, false, false, false, false, false, false, false, false, false, false, false, false, false, false, false, false, false, false, false, false, false, false, false] rfl (by kernel_rfl) hPB (y_cell rfl 24 (.tmp 11) rfl g 1 (by kernel_rfl) HW.out (z := x.f1) rfl Try.underlying24) ?_
  simp only [Act.put, List.setIfInBounds_toArray, List.set_cons_zero, List.set_cons_succ]
  refine wpK_auto (i := 9) #[true, true, true, true, true, true, true, true, true, true, false, false, false, false, false, false, false, false, false, false, false, false, false, false, false, false, false, false, false, false, false, false, false, false] rfl (by kernel_rfl) hPB (fun K hK => ?_)
  go_simp
  refine hK _ ?_
  clear hK K
  refine wpK_auto (i := 10) #[true, true, true, true, true, true, true, true, true, true, true, false, false, false, false, false, false, false, false, false, false, false, false, false, false, false, false, false, false, false, false, false, false, false] rfl (by kernel_rfl) hPB (fun K hK => ?_)
  go_simp
  refine hK _ ?_
  clear hK K
  refine wpK_auto (i := 11) #[true, true, true, true, true, true, true, true, true, true, true, true, false, false, false, false, false, false, false, false, false, false, false, false, false, false, false, false, false, false, false, false, false, false] rfl (by kernel_rfl) hPB (fun K hK => ?_)
  go_simp
  refine hK _ ?_
  clear hK K
  refine wpK_auto (i := 12) #[true, true, true, true, true, true, true, true, true, true, true, true, true, false, false, false, false, false, false, false, false, false, false, false, false, false, false, false, false, false, false, false, false, false] rfl (by kernel_rfl) hPB (fun K hK => ?_)
  go_simp
  refine hK _ ?_
  clear hK K
  refine wpK_take (i := 13) #[true, true, true, true, true, true, true, true, true, true, true, true, true, true, false, false, false, false, false, false, false, false, false, false, false, false, false, false, false, false, false, false, false, false] rfl (by kernel_rfl) hPB (y_cell rfl 24 (.tmp 16) rfl g 2 (by kernel_rfl) HW.out (z := x.f2) rfl Try.underlying24) ?_
  simp only [Act.put, List.setIfInBounds_toArray, List.set_cons_zero, List.set_cons_succ]
  refine wpK_auto (i := 14) #[true, true, true, true, true, true, true, true, true, true, true, true, true, true, true, false, false, false, false, false, false, false, false, false, false, false, false, false, false, false, false, false, false, false] rfl (by kernel_rfl) hPB (fun K hK => ?_)
  go_simp
  refine hK _ ?_
  clear hK K
  refine wpK_auto (i := 15) #[true, true, true, true, true, true, true, true, true, true, true, true, true, true, true, true, false, false, false, false, false, false, false, false, false, false, false, false, false, false, false, false, false, false] rfl (by kernel_rfl) hPB (fun K hK => ?_)
  go_simp
  refine hK _ ?_
  clear hK K
  refine wpK_auto (i := 16) #[true, true, true, true, true, true, true, true, true, true, true, true, true, true, true, true, true, false, false, false, false, false, false, false, false, false, false, false, false, false, false, false, false, false] rfl (by kernel_rfl) hPB (fun K hK => ?_)
  go_simp
  refine hK _ ?_
  clear hK K
  refine wpK_auto (i := 17) #[true, true, true, true, true, true, true, true, true, true, true, true, true, true, true, true, true, true, false, false, false, false, false, false, false, false, false, false, false, false, false, false, false, false] rfl (by kernel_rfl) hPB (fun K hK => ?_)
  go_simp
  refine hK _ ?_
  clear hK K
  refine wpK_take (i := 18) #[true, true, true, true, true, true, true, true, true, true, true, true, true, true, true, true, true, true, true, false, false, false, false, false, false, false, false, false, false, false, false, false, false, false] rfl (by kernel_rfl) hPB (y_cell rfl 24 (.tmp 21) rfl g 3 (by kernel_rfl) HW.out (z := x.f3) rfl Try.underlying24) ?_
  simp only [Act.put, List.setIfInBounds_toArray, List.set_cons_zero, List.set_cons_succ]
  refine wpK_auto (i := 19) #[true, true, true, true, true, true, true, true, true, true, true, true, true, true, true, true, true, true, true, true, false, false, false, false, false, false, false, false, false, false, false, false, false, false] rfl (by kernel_rfl) hPB (fun K hK => ?_)
  go_simp
  refine hK _ ?_
  clear hK K
  refine wpK_auto (i := 20) #[true, true, true, true, true, true, true, true, true, true, true, true, true, true, true, true, true, true, true, true, true, false, false, false, false, false, false, false, false, false, false, false, false, false] rfl (by kernel_rfl) hPB (fun K hK => ?_)
  go_simp
  refine hK _ ?_
  clear hK K
  refine wpK_auto (i := 21) #[true, true, true, true, true, true, true, true, true, true, true, true, true, true, true, true, true, true, true, true, true, true, false, false, false, false, false, false, false, false, false, false, false, false] rfl (by kernel_rfl) hPB (fun K hK => ?_)
  go_simp
  refine hK _ ?_
  clear hK K
  refine wpK_auto (i := 22) #[true, true, true, true, true, true, true, true, true, true, true, true, true, true, true, true, true, true, true, true, true, true, true, false, false, false, false, false, false, false, false, false, false, false] rfl (by kernel_rfl) hPB (fun K hK => ?_)
  go_simp
  refine hK _ ?_
  clear hK K
  refine wpK_take (i := 23) #[true, true, true, true, true, true, true, true, true, true, true, true, true, true, true, true, true, true, true, true, true, true, true, true, false, false, false, false, false, false, false, false, false, false] rfl (by kernel_rfl) hPB (y_cell rfl 24 (.tmp 26) rfl g 4 (by kernel_rfl) HW.out (z := x.f4) rfl Try.underlying24) ?_
  simp only [Act.put, List.setIfInBounds_toArray, List.set_cons_zero, List.set_cons_succ]
  refine wpK_auto (i := 24) #[true, true, true, true, true, true, true, true, true, true, true, true, true, true, true, true, true, true, true, true, true, true, true, true, true, false, false, false, false, false, false, false, false, false] rfl (by kernel_rfl) hPB (fun K hK => ?_)
  go_simp
  refine hK _ ?_
  clear hK K
  refine wpK_auto (i := 25) #[true, true, true, true, true, true, true, true, true, true, true, true, true, true, true, true, true, true, true, true, true, true, true, true, true, true, false, false, false, false, false, false, false, false] rfl (by kernel_rfl) hPB (fun K hK => ?_)
  go_simp
  refine hK _ ?_
  clear hK K
  refine wpK_auto (i := 26) #[true, true, true, true, true, true, true, true, true, true, true, true, true, true, true, true, true, true, true, true, true, true, true, true, true, true, true, false, false, false, false, false, false, false] rfl (by kernel_rfl) hPB (fun K hK => ?_)
  go_simp
  refine hK _ ?_
  clear hK K
  refine wpK_auto (i := 27) #[true, true, true, true, true, true, true, true, true, true, true, true, true, true, true, true, true, true, true, true, true, true, true, true, true, true, true, true, false, false, false, false, false, false] rfl (by kernel_rfl) hPB (fun K hK => ?_)
  go_simp
  refine hK _ ?_
  clear hK K
  refine wpK_take (i := 28) #[true, true, true, true, true, true, true, true, true, true, true, true, true, true, true, true, true, true, true, true, true, true, true, true, true, true, true, true, true, false, false, false, false, false] rfl (by kernel_rfl) hPB (y_cell rfl 22 (.tmp 31) rfl g 5 (by kernel_rfl) HW.out (z := x.f5) rfl Try.underlying22) ?_
  simp only [Act.put, List.setIfInBounds_toArray, List.set_cons_zero, List.set_cons_succ]
  refine wpK_auto (i := 29) #[true, true, true, true, true, true, true, true, true, true, true, true, true, true, true, true, true, true, true, true, true, true, true, true, true, true, true, true, true, true, false, false, false, false] rfl (by kernel_rfl) hPB (fun K hK => ?_)
  go_simp
  refine hK _ ?_
  clear hK K
  refine wpK_pure (i := 30) #[true, true, true, true, true, true, true, true, true, true, true, true, true, true, true, true, true, true, true, true, true, true, true, true, true, true, true, true, true, true, true, false, false, false] rfl (some 34) rfl (by kernel_rfl) hPB (by kernel_rfl) (.agg (vrow .i64 (flkNums x)).toArray) (fun w => by kernel_rfl) ?_
  simp only [Act.put, List.setIfInBounds_toArray, List.set_cons_zero, List.set_cons_succ]
  refine wpK_pure (i := 31) #[true, true, true, true, true, true, true, true, true, true, true, true, true, true, true, true, true, true, true, true, true, true, true, true, true, true, true, true, true, true, true, true, false, false] rfl (some 35) rfl (by kernel_rfl) hPB (by kernel_rfl) (.agg (vrow .i64 (flkMost)).toArray) (fun w => by kernel_rfl) ?_
  simp only [Act.put, List.setIfInBounds_toArray, List.set_cons_zero, List.set_cons_succ]
  have hn := vrow_len .i64 (flkNums x)
  have hzl := zrow_len .i64 6
  have HN1 : ∀ w', WUp W.drew w' → Blk w' w.heap.size (zrow .i64 6) 121 ∧ Blk w' (w.heap.size + 1) (zrow .i64 6) 121 := fun w' hu => ⟨(HCD.out.step hu).blk (w.heap.size, zrow .i64 6, 121) (by simp), (HCD.out.step hu).blk (w.heap.size + 1, zrow .i64 6, 121) (by simp)⟩
  refine wpK_only (i := 32) #[true, true, true, true, true, true, true, true, true, true, true, true, true, true, true, true, true, true, true, true, true, true, true, true, true, true, true, true, true, true, true, true, true, false] (by kernel_rfl) (fun w1 hu => ?_)
  obtain ⟨n1, n2⟩ := HN1 w1 hu
  refine k_store_all rfl rfl 121 (.tmp 2) (.tmp 34) rfl w.heap.size (vrow .i64 (flkNums x)) (by kernel_rfl) (by kernel_rfl) n1 rfl (by kernel_rfl) (vrow_one _ _) ⟨fun h => absurd h (by decide), ?_⟩
  simp only [Act.put]
  have n1' := n1.row (vrow .i64 (flkNums x))
  have n2' := n2.rowOther (show w.heap.size + 1 ≠ w.heap.size by omega) (vrow .i64 (flkNums x)).toArray
  have hbb := below_setRow (HCD.out.step hu).below (Nat.le_refl w.heap.size) (vrow .i64 (flkNums x)).toArray
  refine wpK_only (i := 33) #[true, true, true, true, true, true, true, true, true, true, true, true, true, true, true, true, true, true, true, true, true, true, true, true, true, true, true, true, true, true, true, true, true, true] (by kernel_rfl) (fun w2 hu2 => ?_)
  refine k_store_all rfl rfl 121 (.tmp 3) (.tmp 35) rfl (w.heap.size + 1) (vrow .i64 flkMost) (by kernel_rfl) (by kernel_rfl) (n2'.below hu2 n2'.lt) rfl (by kernel_rfl) (vrow_one _ _) ⟨fun h => absurd h (by decide), ?_⟩
  simp only [Act.put]
  have m1 := (n1'.below hu2 n1'.lt).rowOther (show w.heap.size ≠ w.heap.size + 1 by omega) (vrow .i64 flkMost).toArray
  have m2 := (n2'.below hu2 n2'.lt).row (vrow .i64 flkMost)
  have hb2 := below_setRow (hbb.trans (hu2.mono hbb.size)) (show w.heap.size ≤ w.heap.size + 1 by omega) (vrow .i64 flkMost).toArray
  refine wpK_done (by kernel_rfl) (fun w3 hu3 => ?_)
  have HP1 := Lib.hid (m1.below hu3 m1.lt)
  have HP2 := Lib.hid (m2.below hu3 m2.lt)
  have HPB := Lib.hid (hb2.trans (hu3.mono hb2.size))
  clear m1 m2 hb2 hu3 hu2 hbb n1' n2' n1 n2 hu HN1 hPB HCD HW HC
  go_wp2
  exact post_cc (p := 2) (q := 3) (T := 121) (U := 121) rfl rfl rfl rfl HP1.out HP2.out Try.underlying121 rfl (by kernel_rfl) Try.underlying121 rfl (by kernel_rfl) ⟨rfl, HPB.out⟩
end Go.Proofs.Ytlhiaofanejcoaa
