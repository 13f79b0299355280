/- The worst gap of some cells, by the program. No condition but that the beat is valid and the numbers are within their kinds. -/
import Derived.Test.YtmhkechkkpppaaaB4
import Derived.Test.YtmhkechkkpppaaaGC
namespace Go.Proofs.Ytmhkechkkpppaaa
open Go.RowKit Go.Proofs.YtmhkechkkpppaaaW.PrintWords Go.Proofs.YtmhkechkkpppaaaW.PrintLast Go.Proofs.YtmhkechkkpppaaaW.PrintMore Go.Proofs.Ytmhkechkkpppaaa.PAll
set_option linter.unusedSimpArgs false
set_option linter.unusedVariables false

def wstH (b : List Int) (s : Int) (wt : Nat) (U : List Int) (k : Nat) (x : Int × Int) : Option (Int × Int) := if hasN U k = true then (if gapB b s (k : Int) wt = 0 then none else if x.2 < gapB b s (k : Int) wt then some ((k : Int), gapB b s (k : Int) wt) else some x) else some x
def wstF (b : List Int) (s : Int) (wt : Nat) (U : List Int) (x : Option (Int × Int)) (k : Nat) : Option (Int × Int) := x.bind (wstH b s wt U k)
theorem wst_fold (F : Fld) (b : List Int) (s : Int) (wt : Nat) (U : List Int) (z : Int) : ∀ n, wst F b s wt U z n = foldN (fun x i => if F.has (i : Int) = true then wstF b s wt U x i else x) (some (z, 0)) n
  | 0 => rfl
  | n + 1 => by
    simp only [wst, foldN]
    rw [wst_fold F b s wt U z n]
    generalize foldN (fun x i => if F.has (i : Int) = true then wstF b s wt U x i else x) (some (z, 0)) n = x
    cases x with
    | none => simp [wstF]
    | some x =>
      rw [Option.bind_some]
      unfold wstep wstF wstH
      cases F.has (n : Int) <;> simp
theorem wstF_none {b : List Int} {s : Int} {wt : Nat} {U cs : List Int} {z : Option (Int × Int)} {k : Nat} (h : foldIn (wstF b s wt U) z cs k = none) : ∀ m, k ≤ m → foldIn (wstF b s wt U) z cs m = none := by
  intro m
  induction m with
  | zero =>
    intro hk
    obtain rfl : k = 0 := by omega
    exact h
  | succ m ih =>
    intro hk
    rcases Nat.lt_or_ge m k with h1 | h1
    · obtain rfl : k = m + 1 := by omega
      exact h
    · simp only [foldIn]
      rw [ih h1]
      rfl

set_option maxHeartbeats 4000000 in
theorem iWorst_any (F : Fld) (hF : F.Ok) (b : List Int) (hv : (F.valid && onF F b) = true) (s : Int) (wt : Nat) (hw1 : 1 ≤ wt) (hw2 : wt ≤ 8) (U : List Int) (hU : ClOk U) (g : Nat) (A : Option Addr) (n : Nat) (w : World) (hf : IsF w g F) (hA : BtAt w A b) (hlc : b.length ≤ n) :
    Calls Try.prog 76 #[.pointer (some ⟨g, 0, none⟩), .slice A b.length n, .int .i64 s, .agg (vrow .u64 U).toArray, .int .i64 (wt : Int)] w fun e w' => e = .returned (.tuple #[.int .i64 (worI F b s wt U).1, .int .i64 (worI F b s wt U).2.1, .bool (worI F b s wt U).2.2]) ∧ Below w.heap.size w w' := by
  have HF := Lib.hid hf
  have HO := Lib.hid hF
  have HA := Lib.hid hA
  have HLC := Lib.hid hlc
  have HU := Lib.hid hU
  have HUL := Lib.hid hU.len
  have HIn := Lib.hid (fun k (hk : k < 100) => btIn_at (wt := wt) hv hk hw1 hw2)
  have hfl := hf.lt
  have HWF : Hid (wst F b s wt U 0 100 = foldIn (wstF b s wt U) (some (0, 0)) (F.cellsTo 100) (F.cellsTo 100).length) := Lib.hid (by rw [wst_fold, fold_cells])
  clear hf hF hA hlc hU hv hw1 hw2
  go_enter Try.func76, Try.ntmps76
  go_upto_region 1 with (fail)
  obtain ⟨W, hW⟩ : ∃ W, W = w.alloc (.cells (vrow .u64 U).toArray 40) := ⟨_, rfl⟩
  have HC0 := Lib.hid (boxed1 w (vrow .u64 U) 40)
  rw [← hW] at HC0 ⊢
  clear hW
  have HF0 : Hid (IsF W g F) := Lib.hid (HF.out.below HC0.out.below hfl)
  go_wp2_with (first
    | (go_at_call 88; refine (cells_any F HO.out _ _ HF0.out).mono ?_; rintro e w4 ⟨v, rfl, hm, hb⟩; have HC := Lib.hid (HC0.out.step hb); clear hb; obtain ⟨A2, c2, rfl, hm2⟩ := made_cells hm; have HM := Lib.hid hm2; clear hm hm2))
  go_loopw [13, 14, 21] (fun u v x wr => ∃ (i : Nat) (be mo : Int), i ≤ (F.cellsTo 100).length ∧ x = .int .i64 i ∧ u = .int .i64 be ∧ v = .int .i64 mo ∧ Hid (foldIn (wstF b s wt U) (some (0, 0)) (F.cellsTo 100) i = some (be, mo)) ∧ Hid (Below w4.heap.size w4 wr)) (fun _ _ x _ => (F.cellsTo 100).length - (intOf x).toNat)
  case atStart => exact ⟨0, 0, 0, by omega, rfl, rfl, rfl, Lib.hid rfl, Lib.hid (Below.refl _ _)⟩
  case round =>
    obtain ⟨i, be, mo, hi, rfl, rfl, rfl, HS, HB⟩ := hrel
    have hmx := F.cellsTo_len 100
    by_cases hlt : i < (F.cellsTo 100).length
    · obtain ⟨k, hk, hk2⟩ := cellsTo_in F 100 i hlt
      obtain ⟨ad, hA2, ha1, ha2, hx⟩ := HM.out i hlt
      subst hA2
      rw [hk] at hx
      have HN0 : Hid (foldIn (wstF b s wt U) (some (0, 0)) (F.cellsTo 100) (i + 1) = wstH b s wt U k (be, mo)) := Lib.hid (by simp only [foldIn]; rw [HS.out, hk, Int.toNat_natCast]; rfl)
      have hx' : wr.cell? (ad.add i) = some (.int .i64 (k : Int)) := by
        rw [← hx]
        unfold World.cell?
        rw [HB.out.block _ (by rw [addr_block]; exact ha2)]
      clear hx hk ha1 ha2
      cases hn : hasN U k
      · have HHN := Lib.hid hn
        have HN : Hid (foldIn (wstF b s wt U) (some (0, 0)) (F.cellsTo 100) (i + 1) = some (be, mo)) := Lib.hid (by rw [HN0.out]; unfold wstH; rw [hn]; rfl)
        clear hn
        go_wp2_with (first
          | (with_reducible refine wpList_load_blk rfl 40 (.tmp 8) rfl _ 0 rfl (vrow .u64 U) _ ((HC.out.step HB.out).blk (w.heap.size, vrow .u64 U, 40) (by simp)) (by rw [List.drop_zero, List.take_length]) Try.underlying40 rfl (by rw [vrow_len, HUL.out]; kernel_rfl) ?_)
          | (go_at_call 94; refine (hasCell_any HU.out hk2 _).mono ?_; rintro e w5 ⟨rfl, hb⟩; rw [HHN.out]; have HB5 : Hid (Below w4.heap.size w4 w5) := Lib.hid (HB.out.trans (hb.mono HB.out.size)); clear hb))
        go_roundw
        case rel => exact ⟨i + 1, be, mo, by omega, by go_num, rfl, rfl, HN, HB5⟩
        case measure => simp only [intOf]; omega
      · have HHN := Lib.hid hn
        have hI := HIn.out k hk2
        have HI := Lib.hid hI
        have HG0 : Hid (foldIn (wstF b s wt U) (some (0, 0)) (F.cellsTo 100) (i + 1) = if gapB b s (k : Int) wt = 0 then none else if mo < gapB b s (k : Int) wt then some ((k : Int), gapB b s (k : Int) wt) else some (be, mo)) := Lib.hid (by rw [HN0.out]; unfold wstH; rw [hn]; rfl)
        clear hn hI
        have HCg := Lib.hid (fun (w1 : World) (hb : Below w.heap.size w w1) => gapC_any HI.out s A n w1 (Kd.C_below HA.out hb) HLC.out)
        generalize gapB b s (k : Int) wt = G at *
        by_cases h0 : G = 0
        · subst h0
          have HR : Hid (worI F b s wt U = (0, 0, false)) := Lib.hid (by
            have h1 : foldIn (wstF b s wt U) (some (0, 0)) (F.cellsTo 100) (i + 1) = none := by rw [HG0.out, if_pos rfl]
            unfold worI
            rw [HWF.out, wstF_none h1 _ (by omega)])
          go_wp2_with (first
            | (with_reducible refine wpList_load_blk rfl 40 (.tmp 8) rfl _ 0 rfl (vrow .u64 U) _ ((HC.out.step HB.out).blk (w.heap.size, vrow .u64 U, 40) (by simp)) (by rw [List.drop_zero, List.take_length]) Try.underlying40 rfl (by rw [vrow_len, HUL.out]; kernel_rfl) ?_)
            | (go_at_call 94; refine (hasCell_any HU.out hk2 _).mono ?_; rintro e w5 ⟨rfl, hb⟩; rw [HHN.out]; have HB5 : Hid (Below w4.heap.size w4 w5) := Lib.hid (HB.out.trans (hb.mono HB.out.size)); clear hb)
            | (go_at_call 69; refine (HCg.out _ (HC.out.step HB5.out).below).mono ?_; rintro e w6 ⟨rfl, hb⟩; have HB6 : Hid (Below w4.heap.size w4 w6) := Lib.hid (HB5.out.trans (hb.mono HB5.out.size)); clear hb))
          go_ret3
          rw [HR.out]
          exact ⟨rfl, (HC.out.step HB6.out).below⟩
        · have h0' : (G == 0) = false := by simpa using h0
          by_cases hl : mo < G
          · have HN : Hid (foldIn (wstF b s wt U) (some (0, 0)) (F.cellsTo 100) (i + 1) = some ((k : Int), G)) := Lib.hid (by rw [HG0.out, if_neg h0, if_pos hl])
            go_wp2_with (first
              | (with_reducible refine wpList_load_blk rfl 40 (.tmp 8) rfl _ 0 rfl (vrow .u64 U) _ ((HC.out.step HB.out).blk (w.heap.size, vrow .u64 U, 40) (by simp)) (by rw [List.drop_zero, List.take_length]) Try.underlying40 rfl (by rw [vrow_len, HUL.out]; kernel_rfl) ?_)
              | (go_at_call 94; refine (hasCell_any HU.out hk2 _).mono ?_; rintro e w5 ⟨rfl, hb⟩; rw [HHN.out]; have HB5 : Hid (Below w4.heap.size w4 w5) := Lib.hid (HB.out.trans (hb.mono HB.out.size)); clear hb)
              | (go_at_call 69; refine (HCg.out _ (HC.out.step HB5.out).below).mono ?_; rintro e w6 ⟨rfl, hb⟩; have HB6 : Hid (Below w4.heap.size w4 w6) := Lib.hid (HB5.out.trans (hb.mono HB5.out.size)); clear hb))
            go_roundw
            case rel => exact ⟨i + 1, (k : Int), G, by omega, by go_num, rfl, rfl, HN, HB6⟩
            case measure => simp only [intOf]; omega
          · have HN : Hid (foldIn (wstF b s wt U) (some (0, 0)) (F.cellsTo 100) (i + 1) = some (be, mo)) := Lib.hid (by rw [HG0.out, if_neg h0, if_neg hl])
            go_wp2_with (first
              | (with_reducible refine wpList_load_blk rfl 40 (.tmp 8) rfl _ 0 rfl (vrow .u64 U) _ ((HC.out.step HB.out).blk (w.heap.size, vrow .u64 U, 40) (by simp)) (by rw [List.drop_zero, List.take_length]) Try.underlying40 rfl (by rw [vrow_len, HUL.out]; kernel_rfl) ?_)
              | (go_at_call 94; refine (hasCell_any HU.out hk2 _).mono ?_; rintro e w5 ⟨rfl, hb⟩; rw [HHN.out]; have HB5 : Hid (Below w4.heap.size w4 w5) := Lib.hid (HB.out.trans (hb.mono HB.out.size)); clear hb)
              | (go_at_call 69; refine (HCg.out _ (HC.out.step HB5.out).below).mono ?_; rintro e w6 ⟨rfl, hb⟩; have HB6 : Hid (Below w4.heap.size w4 w6) := Lib.hid (HB5.out.trans (hb.mono HB5.out.size)); clear hb))
            go_roundw
            case rel => exact ⟨i + 1, be, mo, by omega, by go_num, rfl, rfl, HN, HB6⟩
            case measure => simp only [intOf]; omega
    · obtain rfl : i = (F.cellsTo 100).length := by omega
      have HR : Hid (worI F b s wt U = (be, mo, decide (0 < mo))) := Lib.hid (by unfold worI; rw [HWF.out, HS.out])
      go_wp2
      go_ret3
      rw [HR.out]
      exact ⟨rfl, (HC.out.step HB.out).below⟩
end Go.Proofs.Ytmhkechkkpppaaa
