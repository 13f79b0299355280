/- Nets: the cells of a net by the reference, cells of a kind, what is in both of two sets. No condition but that the numbers are within their kinds. -/
import Derived.Test.YtndhmcjcnmiobaaN1
namespace Go.Proofs.Ytndhmcjcnmiobaa
open Go.RowKit Go.Proofs.YtndhmcjcnmiobaaW.PrintWords Go.Proofs.YtndhmcjcnmiobaaW.PrintLast Go.Proofs.YtndhmcjcnmiobaaW.PrintMore Go.Proofs.Ytndhmcjcnmiobaa.PAll
set_option linter.unusedSimpArgs false
set_option linter.unusedVariables false

set_option maxHeartbeats 4000000 in
theorem under_any (n : Nt) (hn : n.Ok) (w : World) : Calls Try.prog 40 #[.agg n.vals.toArray] w fun e w' => e = .returned (.agg (vrow .u64 (setTo (fun j => n.inside j) 100)).toArray) ∧ Below w.heap.size w w' := by
  have hz := zeroCells
  have HN := Lib.hid hn
  clear hn
  obtain ⟨W0, hW0⟩ : ∃ W0, W0 = w.alloc (.cells n.vals.toArray 40) := ⟨_, rfl⟩
  have hst := store_same W0 (zrow .u64 2) (zrow .u64 2) 47 47 (by rw [zrow_len]; kernel_rfl) (by intro v hv; rw [List.eq_of_mem_replicate hv]; rfl)
  subst hW0
  simp only [World.size_alloc] at hst
  have HL := Lib.hid (setTo_len (fun j => n.inside (j : Int)) 100)
  go_enter Try.func40, Try.ntmps40
  go_upto_region 2 with (fail)
  obtain ⟨W, hW⟩ : ∃ W, W = ((w.alloc (.cells n.vals.toArray 40)).alloc (.cells (zrow .u64 2).toArray 47)).alloc (.cells (zrow .u64 2).toArray 47) := ⟨_, rfl⟩
  have HC := Lib.hid (boxed3 w n.vals (zrow .u64 2) (zrow .u64 2) 40 47 47)
  rw [← hW] at HC ⊢
  clear hW hst
  have HG := Lib.hid (HC.out.lt (w.heap.size + 1 + 1, zrow .u64 2, 47) (by simp))
  have HB0 : Hid (Blk W w.heap.size n.vals 40) := Lib.hid (HC.out.blk (w.heap.size, n.vals, 40) (by simp))
  go_wp2
  go_loopw [4] (fun v wr => ∃ i : Nat, i ≤ 100 ∧ v = .int .i64 i ∧ Hid (Kept (w.heap.size + 1 + 1) W wr) ∧ Hid (Blk wr (w.heap.size + 1 + 1) (vrow .u64 (setTo (fun j => n.inside j) i)) 47)) (fun v _ => 100 - (intOf v).toNat)
  case atStart => exact ⟨0, by omega, rfl, Lib.hid (Kept.refl _ _), Lib.hid (HC.out.blk (w.heap.size + 1 + 1, zrow .u64 2, 47) (by simp))⟩
  case round =>
    obtain ⟨i, hi, rfl, HK, HB⟩ := hrel
    by_cases hlt : i < 100
    · have HB1 : Hid (Blk wr w.heap.size n.vals 40) := Lib.hid (HK.out.blk HB0.out (by omega))
      cases h2 : n.inside (i : Int)
      · have HV := Lib.hid h2
        have HN2 : Hid (setTo (fun j => n.inside (j : Int)) (i + 1) = setTo (fun j => n.inside (j : Int)) i) := Lib.hid (by simp only [setTo]; rw [if_neg (by rw [h2]; decide)])
        clear h2
        go_wp2_with (first
          | (with_reducible refine wpList_load_blk rfl 40 (.tmp 1) rfl _ 0 rfl n.vals _ HB1.out rfl Try.underlying40 rfl (by kernel_rfl) ?_)
          | (go_at_call 62; refine (inside_any n HN.out hlt _).mono ?_; rintro e w5 ⟨rfl, hb⟩; rw [HV.out]; have HK5 := Lib.hid (HK.out.step hb); have HB5 := Lib.hid (HB.out.below hb HB.out.lt); clear hb))
        go_roundw
        case rel => exact ⟨i + 1, by omega, by go_num, HK5, by rw [HN2.out]; exact HB5⟩
        case measure => simp only [intOf]; omega
      · have HV := Lib.hid h2
        have HN2 : Hid (setTo (fun j => n.inside (j : Int)) (i + 1) = putN (setTo (fun j => n.inside (j : Int)) i) i) := Lib.hid (by simp only [setTo]; rw [if_pos h2])
        clear h2
        go_wp2_with (first
          | (with_reducible refine wpList_load_blk rfl 40 (.tmp 1) rfl _ 0 rfl n.vals _ HB1.out rfl Try.underlying40 rfl (by kernel_rfl) ?_)
          | (go_at_call 62; refine (inside_any n HN.out hlt _).mono ?_; rintro e w5 ⟨rfl, hb⟩; rw [HV.out]; have HK5 := Lib.hid (HK.out.step hb); have HB5 := Lib.hid (HB.out.below hb HB.out.lt); clear hb)
          | (go_at_call 65; refine (sPut_any _ (setTo_len _ i) _ i hlt _ HB5.out).mono ?_; rintro e w6 ⟨rfl, m, hw6⟩; have HK6 : Hid (Kept (w.heap.size + 1 + 1) W w6) := Lib.hid (by rw [hw6]; exact (HK5.out.set _ _).drewN _); have HB6 : Hid (Blk w6 (w.heap.size + 1 + 1) (vrow .u64 (setTo (fun j => n.inside (j : Int)) (i + 1))) 47) := Lib.hid (by rw [HN2.out, ← putN_row, hw6]; exact (HB5.out.set _ _).drewN _); clear hw6))
        go_roundw
        case rel => exact ⟨i + 1, by omega, by go_num, HK6, HB6⟩
        case measure => simp only [intOf]; omega
    · obtain rfl : i = 100 := by omega
      have HR : Hid (Blk wr (w.heap.size + 1) (zrow .u64 2) 47) := Lib.hid (HK.out.blk (HC.out.blk (w.heap.size + 1, zrow .u64 2, 47) (by simp)) (by omega))
      have HBW : Hid (Below w.heap.size w wr) := Lib.hid (HK.out.below HC.out.below (by omega) HC.out.below.size)
      go_wp2_with (first
        | (with_reducible refine wpList_load_blk rfl 47 (.tmp 3) rfl _ 0 rfl (vrow .u64 (setTo (fun j => n.inside (j : Int)) 100)) _ HB.out (by rw [List.drop_zero, List.take_length]) Try.underlying47 rfl (by rw [vrow_len, HL.out]; kernel_rfl) ?_)
        | (with_reducible refine wpList_store_all rfl 47 (.tmp 2) (.tmp 15) rfl _ (vrow .u64 (setTo (fun j => n.inside (j : Int)) 100)) rfl rfl HR.out (by rw [vrow_len, zrow_len, HL.out]) (by rw [vrow_len, HL.out]; kernel_rfl) (vrow_one _ _) ?_))
      exact post_blk (p := 2) (T := 47) rfl rfl rfl (HR.out.row _) Try.underlying47 rfl (by rw [vrow_len, HL.out]; kernel_rfl) ⟨rfl, below_setRow HBW.out (by omega) _⟩

/-! ### Sets -/
set_option maxHeartbeats 2000000 in
theorem cut_any (x y : Int) (w : World) : Calls Try.prog 70 #[.agg (vrow .u64 [x, y]).toArray] w fun e w' => e = .returned (.agg (vrow .u64 [x, bits .and .u64 y 68719476735]).toArray) ∧ Below w.heap.size w w' := by
  have hz := zeroCells
  go_enter Try.func70, Try.ntmps70
  go_upto_region 1 with (fail)
  obtain ⟨W, hW⟩ : ∃ W, W = (w.alloc (.cells (vrow .u64 [x, y]).toArray 47)).alloc (.cells (zrow .u64 2).toArray 47) := ⟨_, rfl⟩
  have HC := Lib.hid (boxed2 w (vrow .u64 [x, y]) (zrow .u64 2) 47 47)
  rw [← hW] at HC ⊢
  clear hW
  have HR := Lib.hid (HC.out.blk (w.heap.size + 1, zrow .u64 2, 47) (by simp))
  have c0 : W.cell? ⟨w.heap.size, 0, none⟩ = some (.int .u64 x) := (HC.out.blk (w.heap.size, vrow .u64 [x, y], 47) (by simp)).cell rfl
  have c1 : W.cell? ⟨w.heap.size, 1, none⟩ = some (.int .u64 y) := (HC.out.blk (w.heap.size, vrow .u64 [x, y], 47) (by simp)).cell rfl
  go_wp2_with (first
    | (with_reducible refine wpList_store_all rfl 47 (.tmp 2) (.tmp 8) rfl _ (vrow .u64 [x, bits .and .u64 y 68719476735]) rfl rfl HR.out rfl (by kernel_rfl) (vrow_one _ _) ?_))
  exact post_blk (p := 2) (T := 47) rfl rfl rfl (HR.out.row _) Try.underlying47 rfl (by kernel_rfl) ⟨rfl, below_setRow HC.out.below (by omega) _⟩

set_option maxHeartbeats 2000000 in
theorem bothOf_any {U V : List Int} (hU : ClOk U) (hV : ClOk V) (w : World) : Calls Try.prog 64 #[.agg (vrow .u64 U).toArray, .agg (vrow .u64 V).toArray] w fun e w' => e = .returned (.agg (vrow .u64 (setTo (fun j => hasN U j && hasN V j) 100)).toArray) ∧ Below w.heap.size w w' := by
  have hz := zeroCells
  have HQ := Lib.hid (both_setTo hU hV)
  obtain ⟨x, y, rfl, _⟩ := hU.two
  obtain ⟨a, b, rfl, _⟩ := hV.two
  clear hU hV
  have HE : Hid (setTo (fun j => hasN [x, y] j && hasN [a, b] j) 100 = [bits .and .u64 x a, bits .and .u64 (bits .and .u64 y b) 68719476735]) := Lib.hid HQ.out.symm
  rw [HE.out]
  go_enter Try.func64, Try.ntmps64
  go_upto_region 1 with (fail)
  obtain ⟨W, hW⟩ : ∃ W, W = ((w.alloc (.cells (vrow .u64 [x, y]).toArray 47)).alloc (.cells (vrow .u64 [a, b]).toArray 47)).alloc (.cells (zrow .u64 2).toArray 47) := ⟨_, rfl⟩
  have HC := Lib.hid (boxed3 w (vrow .u64 [x, y]) (vrow .u64 [a, b]) (zrow .u64 2) 47 47 47)
  rw [← hW] at HC ⊢
  clear hW
  have HR := Lib.hid (HC.out.blk (w.heap.size + 1 + 1, zrow .u64 2, 47) (by simp))
  have c0 : W.cell? ⟨w.heap.size, 0, none⟩ = some (.int .u64 x) := (HC.out.blk (w.heap.size, vrow .u64 [x, y], 47) (by simp)).cell rfl
  have c1 : W.cell? ⟨w.heap.size, 1, none⟩ = some (.int .u64 y) := (HC.out.blk (w.heap.size, vrow .u64 [x, y], 47) (by simp)).cell rfl
  have d0 : W.cell? ⟨w.heap.size + 1, 0, none⟩ = some (.int .u64 a) := (HC.out.blk (w.heap.size + 1, vrow .u64 [a, b], 47) (by simp)).cell rfl
  have d1 : W.cell? ⟨w.heap.size + 1, 1, none⟩ = some (.int .u64 b) := (HC.out.blk (w.heap.size + 1, vrow .u64 [a, b], 47) (by simp)).cell rfl
  go_wp2_with (first
    | (go_at_call 70; refine (cut_any (bits .and .u64 x a) (bits .and .u64 y b) _).mono ?_; rintro e w2 ⟨rfl, hb⟩; have HC2 := Lib.hid (HC.out.step hb); clear hb)
    | (with_reducible refine wpList_store_all rfl 47 (.tmp 4) (.tmp 16) rfl _ (vrow .u64 [bits .and .u64 x a, bits .and .u64 (bits .and .u64 y b) 68719476735]) rfl rfl (HC2.out.blk (w.heap.size + 1 + 1, zrow .u64 2, 47) (by simp)) rfl (by kernel_rfl) (vrow_one _ _) ?_))
  exact post_blk (p := 4) (T := 47) rfl rfl rfl ((HC2.out.blk (w.heap.size + 1 + 1, zrow .u64 2, 47) (by simp)).row _) Try.underlying47 rfl (by kernel_rfl) ⟨rfl, below_setRow HC2.out.below (by omega) _⟩

theorem kindClo_any (F : Fld) (hF : F.Ok) (k : Int) (g c d : Nat) (i : Nat) (hi : i < 100) (w : World) (hf : IsF w g F) (hc : Blk w c [.pointer (some ⟨g, 0, none⟩)] 57) (hd : Blk w d [.int .i64 k] 2) :
    Calls Try.prog 72 #[.int .i64 i, .pointer (some ⟨c, 0, none⟩), .pointer (some ⟨d, 0, none⟩)] w fun e w' => e = .returned (.bool (F.kind i == k)) ∧ Below w.heap.size w w' := by
  have c1 := hf.ck hF hi
  have c2 := hc.cell (i := 0) rfl
  have c3 := hd.cell (i := 0) rfl
  obtain ⟨b0, b1⟩ := hF.kb i
  clear hc hd hf hF
  cases hb : (F.kind i == k)
  all_goals
    go_enter Try.func72, Try.ntmps72
    go_wp2
    go_quiet (fail)
    go_wp2
    go_ret
    exact ⟨rfl, by repeat (first | exact Below.refl _ _ | refine below_drewN ?_ _)⟩

set_option maxHeartbeats 2000000 in
theorem ofKind_any (F : Fld) (hF : F.Ok) (k : Int) (g : Nat) (w : World) (hf : IsF w g F) :
    Calls Try.prog 49 #[.pointer (some ⟨g, 0, none⟩), .int .i64 k] w fun e w' => e = .returned (.agg (vrow .u64 (setTo (fun j => F.has (j : Int) && (F.kind j == k)) 100)).toArray) ∧ Below w.heap.size w w' := by
  have hz := zeroCells
  have HF := Lib.hid hf
  have HO := Lib.hid hF
  have hfl := hf.lt
  clear hf hF
  have HL := Lib.hid (setTo_len (fun j => F.has (j : Int) && (F.kind j == k)) 100)
  have hmf : ∀ (fn : Fn) (first cap : Array Value) (w : World), (Instr.makeFunc fn first cap).run Try.prog w = .ok (.func fn first cap) w := fun _ _ _ _ => rfl
  go_enter Try.func49, Try.ntmps49
  go_upto_region 1 with (fail)
  obtain ⟨W, hW⟩ : ∃ W, W = ((w.alloc (.cells [Value.pointer (some ⟨g, 0, none⟩)].toArray 57)).alloc (.cells [Value.int .i64 k].toArray 2)).alloc (.cells (zrow .u64 2).toArray 47) := ⟨_, rfl⟩
  have HC := Lib.hid (boxed3 w [Value.pointer (some ⟨g, 0, none⟩)] [.int .i64 k] (zrow .u64 2) 57 2 47)
  rw [← hW] at HC ⊢
  clear hW
  have HF1 : Hid (IsF W g F) := Lib.hid (HF.out.below HC.out.below hfl)
  have c0 : W.cell? ⟨w.heap.size, 0, none⟩ = some (.pointer (some ⟨g, 0, none⟩)) := (HC.out.blk (w.heap.size, [Value.pointer (some ⟨g, 0, none⟩)], 57) (by simp)).cell rfl
  go_wp2_with (first
    | (go_at_call 71; clear c0; refine (those_any F HO.out (fun i => F.kind i == k) _ 72 _ _ HF1.out (enters_of Try.func72 (by kernel_rfl) rfl) (fun i w1 hi hb => by rw [app2]; exact kindClo_any F HO.out k g _ _ i hi w1 (HF1.out.below' hb) ((HC.out.step hb).blk (w.heap.size, [Value.pointer (some ⟨g, 0, none⟩)], 57) (by simp)) ((HC.out.step hb).blk (w.heap.size + 1, [.int .i64 k], 2) (by simp)))).mono ?_; rintro e w2 ⟨rfl, hb⟩; have HC2 := Lib.hid (HC.out.step hb); clear hb)
    | (with_reducible refine wpList_store_all rfl 47 (.tmp 4) (.tmp 7) rfl _ (vrow .u64 (setTo (fun j => F.has (j : Int) && (F.kind j == k)) 100)) rfl rfl (HC2.out.blk (w.heap.size + 1 + 1, zrow .u64 2, 47) (by simp)) (by rw [vrow_len, zrow_len, HL.out]) (by rw [vrow_len, HL.out]; kernel_rfl) (vrow_one _ _) ?_))
  exact post_blk (p := 4) (T := 47) rfl rfl rfl ((HC2.out.blk (w.heap.size + 1 + 1, zrow .u64 2, 47) (by simp)).row _) Try.underlying47 rfl (by rw [vrow_len, HL.out]; kernel_rfl) ⟨rfl, below_setRow HC2.out.below (by omega) _⟩
end Go.Proofs.Ytndhmcjcnmiobaa
