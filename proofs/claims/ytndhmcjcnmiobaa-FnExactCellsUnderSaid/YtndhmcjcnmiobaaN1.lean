/- Nets: what is told of their numbers, what they cover. No condition but that the numbers are within their kinds. -/
import Derived.Test.YtndhmcjcnmiobaaPAllx2
import Derived.Test.YtndhmcjcnmiobaaGC
import Derived.Test.YtndhmcjcnmiobaaGB
import Derived.Test.YtndhmcjcnmiobaaBits
namespace Go.Proofs.Ytndhmcjcnmiobaa
open Go.RowKit Go.Proofs.YtndhmcjcnmiobaaW.PrintWords Go.Proofs.YtndhmcjcnmiobaaW.PrintLast Go.Proofs.YtndhmcjcnmiobaaW.PrintMore Go.Proofs.Ytndhmcjcnmiobaa.PAll
set_option linter.unusedSimpArgs false
set_option linter.unusedVariables false

/-- A net's numbers. -/
structure Nt where
  x : Int
  y : Int
  wide : Int
  high : Int
def Nt.vals (n : Nt) : List Value := [.int .i8 n.x, .int .i8 n.y, .int .i8 n.wide, .int .i8 n.high]
theorem Nt.one (n : Nt) : ∀ v ∈ n.vals, v.oneCell' = true := by
  intro v hv
  simp only [Nt.vals, List.mem_cons, List.not_mem_nil, or_false] at hv
  rcases hv with rfl | rfl | rfl | rfl <;> rfl
structure Nt.Ok (n : Nt) : Prop where
  x0 : -128 ≤ n.x
  x1 : n.x ≤ 127
  y0 : -128 ≤ n.y
  y1 : n.y ≤ 127
  w0 : -128 ≤ n.wide
  w1 : n.wide ≤ 127
  h0 : -128 ≤ n.high
  h1 : n.high ≤ 127
def Nt.plain (n : Nt) : Bool := inB n.x 0 9 && (inB n.y 0 9 && (inB n.wide 1 10 && inB n.high 1 10))
def Nt.inside (n : Nt) (i : Int) : Bool := inB (i % 10) n.x (n.x + n.wide - 1) && inB (i / 10) n.y (n.y + n.high - 1)
/-- The sides are within the field's. -/
structure Nt.Fits (n : Nt) : Prop where
  x0 : 0 ≤ n.x
  y0 : 0 ≤ n.y
  w1 : 1 ≤ n.wide
  h1 : 1 ≤ n.high
  xw : n.x + n.wide ≤ 10
  yh : n.y + n.high ≤ 10
theorem wrap64_i8 {z : Int} (h0 : -128 ≤ z) (h1 : z ≤ 127) : wrap64 z = z := by
  unfold wrap64
  omega
theorem in_f (a b c : Int) : impl_within.f a b c = some (inB a b c) := by
  unfold impl_within.f inB
  by_cases h : b ≤ a
  · simp [h]
  · simp [h]
theorem sin_f (a b c : Int) : spec_l00In.f a b c = some (inB a b c) := by
  unfold spec_l00In.f inB
  by_cases h : b ≤ a
  · simp [h]
  · simp [h]
theorem nPlain_any (n : Nt) (hn : n.Ok) (w : World) : Calls Try.prog 63 #[.agg n.vals.toArray] w fun e w' => e = .returned (.bool n.plain) ∧ Below w.heap.size w w' := by
  refine (impl_Net_isPlain.calls n.x n.y n.wide n.high n.plain w ?_).mono ?_
  · unfold impl_Net_isPlain.f Nt.plain
    simp only [in_f, wrap64_i8 hn.x0 hn.x1, wrap64_i8 hn.y0 hn.y1, wrap64_i8 hn.w0 hn.w1, wrap64_i8 hn.h0 hn.h1, Option.bind_some]
    cases inB n.x 0 9 <;> cases inB n.y 0 9 <;> cases inB n.wide 1 10 <;> cases inB n.high 1 10 <;> rfl
  · rintro e w1 h
    exact h
theorem inside_any (n : Nt) (hn : n.Ok) {i : Nat} (hi : i < 100) (w : World) : Calls Try.prog 62 #[.agg n.vals.toArray, .int .i64 (i : Int)] w fun e w' => e = .returned (.bool (n.inside i)) ∧ Below w.heap.size w w' := by
  refine (spec_l04Inside.calls n.x n.y n.wide n.high (i : Int) (n.inside i) w ?_).mono ?_
  · unfold spec_l04Inside.f Nt.inside
    have e1 : wrap64 (n.x + n.wide) = n.x + n.wide := by unfold wrap64; have := hn.x0; have := hn.x1; have := hn.w0; have := hn.w1; omega
    have e2 : wrap64 (n.y + n.high) = n.y + n.high := by unfold wrap64; have := hn.y0; have := hn.y1; have := hn.h0; have := hn.h1; omega
    have e3 : wrap64 (n.x + n.wide - 1) = n.x + n.wide - 1 := by unfold wrap64; have := hn.x0; have := hn.x1; have := hn.w0; have := hn.w1; omega
    have e4 : wrap64 (n.y + n.high - 1) = n.y + n.high - 1 := by unfold wrap64; have := hn.y0; have := hn.y1; have := hn.h0; have := hn.h1; omega
    have e5 : Int.tmod (i : Int) 10 = (i : Int) % 10 := Int.tmod_eq_emod_of_nonneg (by omega)
    have e6 : Int.tdiv (i : Int) 10 = (i : Int) / 10 := Int.tdiv_eq_ediv_of_nonneg (by omega)
    have e7 : wrap64 ((i : Int) / 10) = (i : Int) / 10 := by unfold wrap64; omega
    simp only [sin_f, wrap64_i8 hn.x0 hn.x1, wrap64_i8 hn.y0 hn.y1, wrap64_i8 hn.w0 hn.w1, wrap64_i8 hn.h0 hn.h1, Option.bind_some, e1, e2, e3, e4, e5, e6, e7]
    cases inB ((i : Int) % 10) n.x (n.x + n.wide - 1) <;> cases inB ((i : Int) / 10) n.y (n.y + n.high - 1) <;> rfl
  · rintro e w1 h
    exact h

/-- What is laid of a net, with some rows and a part of one. -/
def Nt.part (n : Nt) (a b : Int) (j : Nat) : Bool := n.inside j && (decide ((j : Int) / 10 < a) || (decide ((j : Int) / 10 = a) && decide ((j : Int) % 10 < b)))
theorem inside_iff {n : Nt} {i : Int} : n.inside i = true ↔ (n.x ≤ i % 10 ∧ i % 10 ≤ n.x + n.wide - 1) ∧ n.y ≤ i / 10 ∧ i / 10 ≤ n.y + n.high - 1 := by
  unfold Nt.inside
  rw [Bool.and_eq_true, inB_iff, inB_iff]
theorem part_iff {n : Nt} {a b : Int} {j : Nat} : n.part a b j = true ↔ ((n.x ≤ (j : Int) % 10 ∧ (j : Int) % 10 ≤ n.x + n.wide - 1) ∧ n.y ≤ (j : Int) / 10 ∧ (j : Int) / 10 ≤ n.y + n.high - 1) ∧ ((j : Int) / 10 < a ∨ (j : Int) / 10 = a ∧ (j : Int) % 10 < b) := by
  unfold Nt.part
  rw [Bool.and_eq_true, inside_iff, Bool.or_eq_true, Bool.and_eq_true, decide_eq_true_eq, decide_eq_true_eq, decide_eq_true_eq]
theorem part_start (n : Nt) : setTo (n.part n.y n.x) 100 = [0, 0] := by
  rw [← setTo_none]
  refine setTo_same 100 fun j hj => ?_
  rw [Bool.eq_false_iff]
  intro h
  have := part_iff.1 h
  omega
theorem part_step {n : Nt} (hf : n.Fits) {a b : Int} (ha : n.y ≤ a) (ha2 : a < n.y + n.high) (hb : n.x ≤ b) (hb2 : b < n.x + n.wide) : putN (setTo (n.part a b) 100) (b + 10 * a).toNat = setTo (n.part a (b + 1)) 100 := by
  have h1 := hf.x0
  have h2 := hf.y0
  have h3 := hf.xw
  have h4 := hf.yh
  rw [put_setTo _ (by omega)]
  refine setTo_same 100 fun j hj => ?_
  rw [Bool.eq_iff_iff, Bool.or_eq_true, part_iff, part_iff, decide_eq_true_eq]
  omega
theorem part_row {n : Nt} (hf : n.Fits) {a : Int} : setTo (n.part a (n.x + n.wide)) 100 = setTo (n.part (a + 1) n.x) 100 := by
  refine setTo_same 100 fun j hj => ?_
  rw [Bool.eq_iff_iff, part_iff, part_iff]
  omega
theorem part_end (n : Nt) : setTo (n.part (n.y + n.high) n.x) 100 = setTo (fun j => n.inside j) 100 := by
  refine setTo_same 100 fun j hj => ?_
  rw [Bool.eq_iff_iff, part_iff, inside_iff]
  omega

set_option maxHeartbeats 4000000 in
theorem nCells_any (n : Nt) (hn : n.Fits) (w : World) : Calls Try.prog 41 #[.agg n.vals.toArray] w fun e w' => e = .returned (.agg (vrow .u64 (setTo (fun j => n.inside j) 100)).toArray) ∧ Below w.heap.size w w' := by
  have hz := zeroCells
  obtain ⟨x0, y0, w1, h1, xw, yh⟩ := hn
  have HN : Hid n.Fits := Lib.hid ⟨x0, y0, w1, h1, xw, yh⟩
  obtain ⟨W0, hW0⟩ : ∃ W0, W0 = w.alloc (.cells n.vals.toArray 40) := ⟨_, rfl⟩
  have hst := store_same W0 (zrow .u64 2) (zrow .u64 2) 47 47 (by rw [zrow_len]; kernel_rfl) (by intro v hv; rw [List.eq_of_mem_replicate hv]; rfl)
  subst hW0
  simp only [World.size_alloc] at hst
  go_enter Try.func41, Try.ntmps41
  go_upto_region 2 with (fail)
  obtain ⟨W, hW⟩ : ∃ W, W = ((w.alloc (.cells n.vals.toArray 40)).alloc (.cells (zrow .u64 2).toArray 47)).alloc (.cells (zrow .u64 2).toArray 47) := ⟨_, rfl⟩
  have HC := Lib.hid (boxed3 w n.vals (zrow .u64 2) (zrow .u64 2) 40 47 47)
  rw [← hW] at HC ⊢
  clear hW hst
  have HG := Lib.hid (HC.out.lt (w.heap.size + 1 + 1, zrow .u64 2, 47) (by simp))
  have HB0 : Hid (Blk W w.heap.size n.vals 40) := Lib.hid (HC.out.blk (w.heap.size, n.vals, 40) (by simp))
  have c0 : W.cell? ⟨w.heap.size, 0, none⟩ = some (.int .i8 n.x) := HB0.out.cell rfl
  have c1 : W.cell? ⟨w.heap.size, 1, none⟩ = some (.int .i8 n.y) := HB0.out.cell rfl
  go_wp2
  clear c0 c1
  go_loopw [4] (fun v wr => ∃ a : Int, n.y ≤ a ∧ a ≤ n.y + n.high ∧ v = .int .i8 a ∧ Hid (Kept (w.heap.size + 1 + 1) W wr) ∧ Hid (Blk wr (w.heap.size + 1 + 1) (vrow .u64 (setTo (n.part a n.x) 100)) 47)) (fun v _ => (n.y + n.high - intOf v).toNat)
  case atStart => exact ⟨n.y, by omega, by omega, rfl, Lib.hid (Kept.refl _ _), Lib.hid (by rw [part_start]; exact HC.out.blk (w.heap.size + 1 + 1, zrow .u64 2, 47) (by simp))⟩
  case round =>
    obtain ⟨a, ha, ha2, rfl, HK, HB⟩ := hrel
    have HB1 : Hid (Blk wr w.heap.size n.vals 40) := Lib.hid (HK.out.blk HB0.out (by omega))
    have c0 : wr.cell? ⟨w.heap.size, 0, none⟩ = some (.int .i8 n.x) := HB1.out.cell rfl
    have c1 : wr.cell? ⟨w.heap.size, 1, none⟩ = some (.int .i8 n.y) := HB1.out.cell rfl
    have c3 : wr.cell? ⟨w.heap.size, 3, none⟩ = some (.int .i8 n.high) := HB1.out.cell rfl
    by_cases hlt : a < n.y + n.high
    · go_wp2
      clear c0 c1 c3 HB1
      go_loopw [5] (fun v w2 => ∃ b : Int, n.x ≤ b ∧ b ≤ n.x + n.wide ∧ v = .int .i8 b ∧ Hid (Kept (w.heap.size + 1 + 1) W w2) ∧ Hid (Blk w2 (w.heap.size + 1 + 1) (vrow .u64 (setTo (n.part a b) 100)) 47)) (fun v _ => (n.x + n.wide - intOf v).toNat)
      case atStart => exact ⟨n.x, by omega, by omega, rfl, HK, HB⟩
      case round =>
        obtain ⟨b, hb, hb2, rfl, HK2, HB2⟩ := hrel
        have HB3 : Hid (Blk wr w.heap.size n.vals 40) := Lib.hid (HK2.out.blk HB0.out (by omega))
        have c0 : wr.cell? ⟨w.heap.size, 0, none⟩ = some (.int .i8 n.x) := HB3.out.cell rfl
        have c2 : wr.cell? ⟨w.heap.size, 2, none⟩ = some (.int .i8 n.wide) := HB3.out.cell rfl
        by_cases hlb : b < n.x + n.wide
        · obtain ⟨k, hk⟩ : ∃ k : Nat, b + 10 * a = (k : Int) := ⟨(b + 10 * a).toNat, by omega⟩
          have hk2 : k < 100 := by omega
          have HKE := Lib.hid hk
          have HPS : Hid (putN (setTo (n.part a b) 100) k = setTo (n.part a (b + 1)) 100) := Lib.hid (by rw [← part_step HN.out (by omega) hlt hb hlb, hk, Int.toNat_natCast])
          clear hk
          go_wp2_with (first
            | (go_at_call 66; rw [HKE.out]; refine (put_any _ (setTo_len _ _) _ k hk2 _ HB2.out).mono ?_; rintro e w6 ⟨rfl, m, hw6⟩; have HK6 : Hid (Kept (w.heap.size + 1 + 1) W w6) := Lib.hid (by rw [hw6]; exact (HK2.out.set _ _).drewN _); have HB6 : Hid (Blk w6 (w.heap.size + 1 + 1) (vrow .u64 (setTo (n.part a (b + 1)) 100)) 47) := Lib.hid (by rw [← HPS.out, ← putN_row, hw6]; exact (HB2.out.set _ _).drewN _); clear hw6))
          go_roundw
          case rel => exact ⟨b + 1, by omega, by omega, by go_num, HK6, HB6⟩
          case measure => simp only [intOf]; omega
        · obtain rfl : b = n.x + n.wide := by omega
          have HB6 : Hid (Blk wr (w.heap.size + 1 + 1) (vrow .u64 (setTo (n.part (a + 1) n.x) 100)) 47) := Lib.hid (by rw [← part_row HN.out]; exact HB2.out)
          go_wp2
          go_roundw
          case rel => exact ⟨a + 1, by omega, by omega, by go_num, HK2, HB6⟩
          case measure => simp only [intOf]; omega
    · obtain rfl : a = n.y + n.high := by omega
      have HB6 : Hid (Blk wr (w.heap.size + 1 + 1) (vrow .u64 (setTo (fun j => n.inside j) 100)) 47) := Lib.hid (by rw [← part_end]; exact HB.out)
      have HL := Lib.hid (setTo_len (fun j => n.inside (j : Int)) 100)
      have HR : Hid (Blk wr (w.heap.size + 1) (zrow .u64 2) 47) := Lib.hid (HK.out.blk (HC.out.blk (w.heap.size + 1, zrow .u64 2, 47) (by simp)) (by omega))
      have HBW : Hid (Below w.heap.size w wr) := Lib.hid (HK.out.below HC.out.below (by omega) HC.out.below.size)
      go_wp2_with (first
        | (with_reducible refine wpList_load_blk rfl 47 (.tmp 3) rfl _ 0 rfl (vrow .u64 (setTo (fun j => n.inside (j : Int)) 100)) _ HB6.out (by rw [List.drop_zero, List.take_length]) Try.underlying47 rfl (by rw [vrow_len, HL.out]; kernel_rfl) ?_)
        | (with_reducible refine wpList_store_all rfl 47 (.tmp 2) (.tmp 36) rfl _ (vrow .u64 (setTo (fun j => n.inside (j : Int)) 100)) rfl rfl HR.out (by rw [vrow_len, zrow_len, HL.out]) (by rw [vrow_len, HL.out]; kernel_rfl) (vrow_one _ _) ?_))
      exact post_blk (p := 2) (T := 47) rfl rfl rfl (HR.out.row _) Try.underlying47 rfl (by rw [vrow_len, HL.out]; kernel_rfl) ⟨rfl, below_setRow HBW.out (by omega) _⟩
end Go.Proofs.Ytndhmcjcnmiobaa
