/- The cells around a cell, by the program and by the reference: the same set. No condition but that the numbers are within their kinds. -/
import Derived.Test.YtmhkechkkpppaaaV2
import Derived.Test.YtmhkechkkpppaaaGC
namespace Go.Proofs.Ytmhkechkkpppaaa
open Go.RowKit Go.Proofs.YtmhkechkkpppaaaW.PrintWords Go.Proofs.YtmhkechkkpppaaaW.PrintLast Go.Proofs.YtmhkechkkpppaaaW.PrintMore
set_option linter.unusedSimpArgs false
set_option linter.unusedVariables false

def ringB (F : Fld) (k : Nat) (s : Int) (j : Nat) : Bool := F.has (j : Int) && decide (sq (k : Int) (j : Int) ≤ s)
def ringSet (F : Fld) (k : Nat) (s : Int) : List Int := setTo (ringB F k s) 100

theorem squareB_any (a b : Nat) (ha : a < 100) (hb : b < 100) (w : World) : Calls Try.prog 86 #[.int .i64 a, .int .i64 b] w fun e w' => e = .returned (.int .i64 (sq a b)) ∧ Below w.heap.size w w' :=
  (square_any a b ha hb w).mono fun e w' ⟨h, n, hw⟩ => ⟨h, hw ▸ below_drewN (Below.refl _ _) n⟩
theorem sSquareB_any (a b : Nat) (ha : a < 100) (hb : b < 100) (w : World) : Calls Try.prog 80 #[.int .i64 a, .int .i64 b] w fun e w' => e = .returned (.int .i64 (sq a b)) ∧ Below w.heap.size w w' :=
  (sSquare_any a b ha hb w).mono fun e w' ⟨h, n, hw⟩ => ⟨h, hw ▸ below_drewN (Below.refl _ _) n⟩

theorem ringClo_any (k : Nat) (hk : k < 100) (s : Int) (c d : Nat) (i : Nat) (hi : i < 100) (w : World) (hc : Blk w c [.int .i64 (k : Int)] 2) (hd : Blk w d [.int .i64 s] 2) :
    Calls Try.prog 85 #[.int .i64 i, .pointer (some ⟨c, 0, none⟩), .pointer (some ⟨d, 0, none⟩)] w fun e w' => e = .returned (.bool (decide (sq k i ≤ s))) ∧ Below w.heap.size w w' := by
  have HC : Hid (Cls w [(c, [.int .i64 (k : Int)], 2), (d, [.int .i64 s], 2)] w) := Lib.hid ⟨Below.refl _ _, fun y hy => by
    simp only [List.mem_cons, List.not_mem_nil, or_false] at hy
    rcases hy with rfl | rfl
    · exact hc
    · exact hd⟩
  clear hc hd
  go_enter Try.func85, Try.ntmps85
  go_upto_region 1 with (fail)
  refine wp_region_class (Cls w [(c, [.int .i64 (k : Int)], 2), (d, [.int .i64 s], 2)]) (by kernel_rfl) (by kernel_rfl) HC.out.drew ?_
  repeat (first | ((with_reducible refine q_gate (some 5) rfl ?_); refine q_cell (some 5) rfl (by kernel_rfl) 2 (.tmp 1) rfl (c) (0) (by kernel_rfl) (fun w1 h1 => h1.blk (c, [.int .i64 (k : Int)], 2) (by simp)) (z := (k : Int)) (rfl) Try.underlying2 ?_) | ((with_reducible refine q_gate (some 7) rfl ?_); refine q_call (some 7) rfl (by kernel_rfl) Try.func86 (by kernel_rfl) rfl #[.int .i64 (k : Int), .int .i64 (i : Int)] rfl (by simp only [List.map_toArray, List.map_cons, List.map_nil]; kernel_rfl) (.int .i64 (sq k i)) (fun w1 h1 => h1.calls (squareB_any k i hk hi w1)) ?_) | ((with_reducible refine q_gate (some 8) rfl ?_); refine q_cell (some 8) rfl (by kernel_rfl) 2 (.tmp 2) rfl (d) (0) (by kernel_rfl) (fun w1 h1 => h1.blk (d, [.int .i64 s], 2) (by simp)) (z := s) (rfl) Try.underlying2 ?_) | ((with_reducible refine q_auto (fun K hK => ?_)); go_simp; refine hK _ ?_; clear hK K))
  refine wpQuiet_nil ?_
  intro w3 hc3
  have HC3 := Lib.hid hc3
  clear hc3
  go_wp2
  go_ret
  exact ⟨rfl, HC3.out.below⟩

set_option maxHeartbeats 2000000 in
theorem ring_any (F : Fld) (hF : F.Ok) (k : Nat) (hk : k < 100) (s : Int) (g : Nat) (w : World) (hf : IsF w g F) :
    Calls Try.prog 56 #[.pointer (some ⟨g, 0, none⟩), .int .i64 (k : Int), .int .i64 s] w fun e w' => e = .returned (.agg (vrow .u64 (ringSet F k s)).toArray) ∧ Below w.heap.size w w' := by
  have hz := zeroCells
  have HF := Lib.hid hf
  have HO := Lib.hid hF
  have hfl := hf.lt
  clear hf hF
  have HL : Hid ((ringSet F k s).length = 2) := Lib.hid (setTo_len _ 100)
  have hmf : ∀ (fn : Fn) (first cap : Array Value) (w : World), (Instr.makeFunc fn first cap).run Try.prog w = .ok (.func fn first cap) w := fun _ _ _ _ => rfl
  go_enter Try.func56, Try.ntmps56
  go_upto_region 1 with (fail)
  obtain ⟨W, hW⟩ : ∃ W, W = ((w.alloc (.cells [Value.int .i64 (k : Int)].toArray 2)).alloc (.cells [Value.int .i64 s].toArray 2)).alloc (.cells (zrow .u64 2).toArray 40) := ⟨_, rfl⟩
  have HC := Lib.hid (boxed3 w [.int .i64 (k : Int)] [.int .i64 s] (zrow .u64 2) 2 2 40)
  rw [← hW] at HC ⊢
  clear hW
  have HF1 : Hid (IsF W g F) := Lib.hid (HF.out.below HC.out.below hfl)
  go_wp2_with (first
    | (go_at_call 60; refine (those_any F HO.out (fun j => decide (sq (k : Int) (j : Int) ≤ s)) _ 85 _ _ HF1.out (enters_of Try.func85 (by kernel_rfl) rfl) (fun i w1 hi hb => by rw [app2]; exact ringClo_any k hk s _ _ i hi w1 ((HC.out.step hb).blk (w.heap.size, [.int .i64 (k : Int)], 2) (by simp)) ((HC.out.step hb).blk (w.heap.size + 1, [.int .i64 s], 2) (by simp)))).mono ?_; rintro e w2 ⟨rfl, hb⟩; have HC2 := Lib.hid (HC.out.step hb); clear hb)
    | (with_reducible refine wpList_store_all rfl 40 (.tmp 6) (.tmp 9) rfl _ (vrow .u64 (ringSet F k s)) rfl rfl (HC2.out.blk (w.heap.size + 1 + 1, zrow .u64 2, 40) (by simp)) (by rw [vrow_len, zrow_len, HL.out]) (by rw [vrow_len, HL.out]; kernel_rfl) (vrow_one _ _) ?_))
  exact post_blk (p := 6) (T := 40) rfl rfl rfl ((HC2.out.blk (w.heap.size + 1 + 1, zrow .u64 2, 40) (by simp)).row _) Try.underlying40 rfl (by rw [vrow_len, HL.out]; kernel_rfl) ⟨rfl, below_setRow HC2.out.below (by omega) _⟩

set_option maxHeartbeats 4000000 in
theorem sRing_any (F : Fld) (hF : F.Ok) (k : Nat) (hk : k < 100) (s : Int) (g : Nat) (w : World) (hf : IsF w g F) :
    Calls Try.prog 51 #[.pointer (some ⟨g, 0, none⟩), .int .i64 (k : Int), .int .i64 s] w fun e w' => e = .returned (.agg (vrow .u64 (ringSet F k s)).toArray) ∧ Below w.heap.size w w' := by
  have hz := zeroCells
  have HF := Lib.hid hf
  have HO := Lib.hid hF
  have hfl := hf.lt
  clear hf hF
  have hst := store_same w (zrow .u64 2) (zrow .u64 2) 40 40 (by rw [zrow_len]; kernel_rfl) (by intro v hv; rw [List.eq_of_mem_replicate hv]; rfl)
  have HL : Hid ((ringSet F k s).length = 2) := Lib.hid (setTo_len _ 100)
  go_enter Try.func51, Try.ntmps51
  go_upto_region 2 with (fail)
  obtain ⟨W, hW⟩ : ∃ W, W = (w.alloc (.cells (zrow .u64 2).toArray 40)).alloc (.cells (zrow .u64 2).toArray 40) := ⟨_, rfl⟩
  have HC := Lib.hid (boxed2 w (zrow .u64 2) (zrow .u64 2) 40 40)
  rw [← hW] at HC ⊢
  clear hW hst
  have HG := Lib.hid (HC.out.lt (w.heap.size + 1, zrow .u64 2, 40) (by simp))
  have HF1 : Hid (IsF W g F) := Lib.hid (HF.out.below HC.out.below hfl)
  go_wp2
  go_loopw [8] (fun v wr => ∃ i : Nat, i ≤ 100 ∧ v = .int .i64 i ∧ Hid (Kept (w.heap.size + 1) W wr) ∧ Hid (Blk wr (w.heap.size + 1) (vrow .u64 (setTo (ringB F k s) i)) 40)) (fun v _ => 100 - (intOf v).toNat)
  case atStart => exact ⟨0, by omega, rfl, Lib.hid (Kept.refl _ _), Lib.hid (HC.out.blk (w.heap.size + 1, zrow .u64 2, 40) (by simp))⟩
  case round =>
    obtain ⟨i, hi, rfl, HK, HB⟩ := hrel
    by_cases hlt : i < 100
    · have HF2 : Hid (IsF wr g F) := Lib.hid (HK.out.blk HF1.out (by omega))
      cases hh : F.has (i : Int)
      · have HH := Lib.hid hh
        have HN2 : Hid (setTo (ringB F k s) (i + 1) = setTo (ringB F k s) i) := Lib.hid (by simp only [setTo]; rw [if_neg (by unfold ringB; rw [hh]; simp)])
        clear hh
        go_wp2_with (first
          | (go_at_call 63; refine (is_any F g _ _ HF2.out HO.out).mono ?_; rintro e w5 ⟨rfl, rfl⟩; rw [HH.out]))
        go_roundw
        case rel => exact ⟨i + 1, by omega, by go_num, HK, by rw [HN2.out]; exact HB⟩
        case measure => simp only [intOf]; omega
      · have HH := Lib.hid hh
        by_cases hs : sq (k : Int) (i : Int) ≤ s
        · have HN2 : Hid (setTo (ringB F k s) (i + 1) = putN (setTo (ringB F k s) i) i) := Lib.hid (by simp only [setTo]; rw [if_pos (by unfold ringB; rw [hh, decide_eq_true hs]; rfl)])
          clear hh
          go_wp2_with (first
            | (go_at_call 63; refine (is_any F g _ _ HF2.out HO.out).mono ?_; rintro e w5 ⟨rfl, rfl⟩; rw [HH.out])
            | (go_at_call 80; refine (sSquareB_any k i hk hlt _).mono ?_; rintro e w5 ⟨rfl, hb⟩; have HK5 := Lib.hid (HK.out.step hb); have HB5 := Lib.hid (HB.out.below hb HB.out.lt); clear hb)
            | (go_at_call 84; refine (sPut_any _ (setTo_len _ i) _ i hlt _ HB5.out).mono ?_; rintro e w6 ⟨rfl, m, hw6⟩; have HK6 : Hid (Kept (w.heap.size + 1) W w6) := Lib.hid (by rw [hw6]; exact (HK5.out.set _ _).drewN _); have HB6 : Hid (Blk w6 (w.heap.size + 1) (vrow .u64 (setTo (ringB F k s) (i + 1))) 40) := Lib.hid (by rw [HN2.out, ← putN_row, hw6]; exact (HB5.out.set _ _).drewN _); clear hw6))
          go_roundw
          case rel => exact ⟨i + 1, by omega, by go_num, HK6, HB6⟩
          case measure => simp only [intOf]; omega
        · have HN2 : Hid (setTo (ringB F k s) (i + 1) = setTo (ringB F k s) i) := Lib.hid (by simp only [setTo]; rw [if_neg (by unfold ringB; rw [hh, decide_eq_false hs]; simp)])
          clear hh
          go_wp2_with (first
            | (go_at_call 63; refine (is_any F g _ _ HF2.out HO.out).mono ?_; rintro e w5 ⟨rfl, rfl⟩; rw [HH.out])
            | (go_at_call 80; refine (sSquareB_any k i hk hlt _).mono ?_; rintro e w5 ⟨rfl, hb⟩; have HK5 := Lib.hid (HK.out.step hb); have HB5 := Lib.hid (HB.out.below hb HB.out.lt); clear hb))
          go_roundw
          case rel => exact ⟨i + 1, by omega, by go_num, HK5, by rw [HN2.out]; exact HB5⟩
          case measure => simp only [intOf]; omega
    · obtain rfl : i = 100 := by omega
      have HB6 : Hid (Blk wr (w.heap.size + 1) (vrow .u64 (ringSet F k s)) 40) := HB
      have HR : Hid (Blk wr w.heap.size (zrow .u64 2) 40) := Lib.hid (HK.out.blk (HC.out.blk (w.heap.size, zrow .u64 2, 40) (by simp)) (by omega))
      have HBW : Hid (Below w.heap.size w wr) := Lib.hid (HK.out.below HC.out.below (by omega) HC.out.below.size)
      go_wp2_with (first
        | (with_reducible refine wpList_load_blk rfl 40 (.tmp 7) rfl _ 0 rfl (vrow .u64 (ringSet F k s)) _ HB6.out (by rw [List.drop_zero, List.take_length]) Try.underlying40 rfl (by rw [vrow_len, HL.out]; kernel_rfl) ?_)
        | (with_reducible refine wpList_store_all rfl 40 (.tmp 6) (.tmp 26) rfl _ (vrow .u64 (ringSet F k s)) rfl rfl HR.out (by rw [vrow_len, zrow_len, HL.out]) (by rw [vrow_len, HL.out]; kernel_rfl) (vrow_one _ _) ?_))
      exact post_blk (p := 6) (T := 40) rfl rfl rfl (HR.out.row _) Try.underlying40 rfl (by rw [vrow_len, HL.out]; kernel_rfl) ⟨rfl, below_setRow HBW.out (by omega) _⟩
end Go.Proofs.Ytmhkechkkpppaaa
