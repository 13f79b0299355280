/- The worst gap of some cells, by the reference. No condition but that the beat is valid and the numbers are within their kinds. -/
import Derived.Test.YtmhkechkkpppaaaB3
import Derived.Test.YtmhkechkkpppaaaHC
namespace Go.Proofs.Ytmhkechkkpppaaa
open Go.RowKit Go.Proofs.YtmhkechkkpppaaaW.PrintWords Go.Proofs.YtmhkechkkpppaaaW.PrintLast Go.Proofs.YtmhkechkkpppaaaW.PrintMore Go.Proofs.Ytmhkechkkpppaaa.PAll
set_option linter.unusedSimpArgs false
set_option linter.unusedVariables false

theorem btIn_at {F : Fld} {b : List Int} {wt k : Nat} (h : (F.valid && onF F b) = true) (hk : k < 100) (h1 : 1 ≤ wt) (h2 : wt ≤ 8) : BtIn b (k : Int) wt := by
  obtain ⟨l0, l1, hb⟩ := beat_cells h
  refine ⟨l0, l1, fun i hi => ?_, by omega, by omega, h1, h2⟩
  obtain ⟨m, e, hm⟩ := hb i hi
  rw [e]
  omega

set_option maxHeartbeats 4000000 in
theorem sWorst_any (F : Fld) (hF : F.Ok) (b : List Int) (hv : (F.valid && onF F b) = true) (s : Int) (wt : Nat) (hw1 : 1 ≤ wt) (hw2 : wt ≤ 8) (U : List Int) (hU : ClOk U) (g d : Nat) (A : Option Addr) (n : Nat) (w : World) (hf : IsF w g F) (hd : Blk w d (vrow .u64 U) 40) (hA : BtAt w A b) (hlc : b.length ≤ n) :
    Calls Try.prog 74 #[.pointer (some ⟨g, 0, none⟩), .slice A b.length n, .int .i64 s, .int .i64 (wt : Int), .pointer (some ⟨d, 0, none⟩)] w fun e w' => e = .returned (.tuple #[.int .i64 (worS F b s wt U).1, .int .i64 (worS F b s wt U).2.1, .bool (worS F b s wt U).2.2]) ∧ Below w.heap.size w w' := by
  have HF := Lib.hid hf
  have HO := Lib.hid hF
  have HD := Lib.hid hd
  have HA := Lib.hid hA
  have HLC := Lib.hid hlc
  have HU := Lib.hid hU
  have HIn := Lib.hid (fun k (hk : k < 100) => btIn_at (wt := wt) hv hk hw1 hw2)
  have hfl := hf.lt
  have hdl := hd.lt
  clear hf hF hd hA hlc hU hv hw1 hw2
  go_enter Try.func74, Try.ntmps74
  go_wp2
  go_loopw [13, 14, 15] (fun u v x wr => ∃ (i : Nat) (be mo : Int), i ≤ 100 ∧ x = .int .i64 i ∧ u = .int .i64 be ∧ v = .int .i64 mo ∧ Hid (wst F b s wt U (-1) i = some (be, mo)) ∧ Hid (Below w.heap.size w wr)) (fun _ _ x _ => 100 - (intOf x).toNat)
  case atStart => exact ⟨0, -1, 0, by omega, rfl, rfl, rfl, Lib.hid rfl, Lib.hid (Below.refl _ _)⟩
  case round =>
    obtain ⟨i, be, mo, hi, rfl, rfl, rfl, HS, HB⟩ := hrel
    by_cases hlt : i < 100
    · have HN0 : Hid (wst F b s wt U (-1) (i + 1) = wstep F b s wt U i (be, mo)) := Lib.hid (by simp only [wst]; rw [HS.out]; rfl)
      cases hh : F.has (i : Int)
      · have HH := Lib.hid hh
        have HN : Hid (wst F b s wt U (-1) (i + 1) = some (be, mo)) := Lib.hid (by rw [HN0.out]; unfold wstep; rw [hh]; rfl)
        clear hh
        go_wp2_with (go_at_call 63; refine (is_any F g _ _ (HF.out.below HB.out hfl) HO.out).mono ?_; rintro e w' ⟨rfl, rfl⟩; rw [HH.out])
        go_roundw
        case rel => exact ⟨i + 1, be, mo, by omega, by go_num, rfl, rfl, HN, HB⟩
        case measure => simp only [intOf]; omega
      · have HH := Lib.hid hh
        cases hn : hasN U i
        · have HHN := Lib.hid hn
          have HN : Hid (wst F b s wt U (-1) (i + 1) = some (be, mo)) := Lib.hid (by rw [HN0.out]; unfold wstep; rw [hh, hn]; rfl)
          clear hh hn
          go_wp2_with (first
            | (go_at_call 63; refine (is_any F g _ _ (HF.out.below HB.out hfl) HO.out).mono ?_; rintro e w' ⟨rfl, rfl⟩; rw [HH.out])
            | (go_at_call 93; refine (l01Has_any HU.out hlt d _ (HD.out.below HB.out hdl)).mono ?_; rintro e w5 ⟨rfl, hb⟩; rw [HHN.out]; have HB5 : Hid (Below w.heap.size w w5) := Lib.hid (HB.out.trans (hb.mono HB.out.size)); clear hb))
          go_roundw
          case rel => exact ⟨i + 1, be, mo, by omega, by go_num, rfl, rfl, HN, HB5⟩
          case measure => simp only [intOf]; omega
        · have HHN := Lib.hid hn
          have hI := HIn.out i hlt
          have HI := Lib.hid hI
          have HG0 : Hid (wst F b s wt U (-1) (i + 1) = if gapB b s (i : Int) wt = 0 then none else if mo < gapB b s (i : Int) wt then some ((i : Int), gapB b s (i : Int) wt) else some (be, mo)) := Lib.hid (by rw [HN0.out]; unfold wstep; rw [hh, hn]; rfl)
          clear hh hn hI
          have HCg := Lib.hid (fun (w1 : World) (hb : Below w.heap.size w w1) => sgapC_any HI.out s A n w1 (Kd.C_below HA.out hb) HLC.out)
          generalize gapB b s (i : Int) wt = G at *
          by_cases h0 : G = 0
          · subst h0
            have HR : Hid (worS F b s wt U = (0, 0, false)) := Lib.hid (by
              have h1 : wst F b s wt U (-1) (i + 1) = none := by rw [HG0.out, if_pos rfl]
              unfold worS
              rw [wst_none h1 100 (by omega)])
            go_wp2_with (first
              | (go_at_call 63; refine (is_any F g _ _ (HF.out.below HB.out hfl) HO.out).mono ?_; rintro e w' ⟨rfl, rfl⟩; rw [HH.out])
              | (go_at_call 93; refine (l01Has_any HU.out hlt d _ (HD.out.below HB.out hdl)).mono ?_; rintro e w5 ⟨rfl, hb⟩; rw [HHN.out]; have HB5 : Hid (Below w.heap.size w w5) := Lib.hid (HB.out.trans (hb.mono HB.out.size)); clear hb)
              | (go_at_call 67; refine (HCg.out _ HB5.out).mono ?_; rintro e w6 ⟨rfl, hb⟩; have HB6 : Hid (Below w.heap.size w w6) := Lib.hid (HB5.out.trans (hb.mono HB5.out.size)); clear hb))
            go_ret3
            rw [HR.out]
            exact ⟨rfl, HB6.out⟩
          · have h0' : (G == 0) = false := by simpa using h0
            by_cases hl : mo < G
            · have HN : Hid (wst F b s wt U (-1) (i + 1) = some ((i : Int), G)) := Lib.hid (by rw [HG0.out, if_neg h0, if_pos hl])
              go_wp2_with (first
                | (go_at_call 63; refine (is_any F g _ _ (HF.out.below HB.out hfl) HO.out).mono ?_; rintro e w' ⟨rfl, rfl⟩; rw [HH.out])
                | (go_at_call 93; refine (l01Has_any HU.out hlt d _ (HD.out.below HB.out hdl)).mono ?_; rintro e w5 ⟨rfl, hb⟩; rw [HHN.out]; have HB5 : Hid (Below w.heap.size w w5) := Lib.hid (HB.out.trans (hb.mono HB.out.size)); clear hb)
                | (go_at_call 67; refine (HCg.out _ HB5.out).mono ?_; rintro e w6 ⟨rfl, hb⟩; have HB6 : Hid (Below w.heap.size w w6) := Lib.hid (HB5.out.trans (hb.mono HB5.out.size)); clear hb))
              go_roundw
              case rel => exact ⟨i + 1, (i : Int), G, by omega, by go_num, rfl, rfl, HN, HB6⟩
              case measure => simp only [intOf]; omega
            · have HN : Hid (wst F b s wt U (-1) (i + 1) = some (be, mo)) := Lib.hid (by rw [HG0.out, if_neg h0, if_neg hl])
              go_wp2_with (first
                | (go_at_call 63; refine (is_any F g _ _ (HF.out.below HB.out hfl) HO.out).mono ?_; rintro e w' ⟨rfl, rfl⟩; rw [HH.out])
                | (go_at_call 93; refine (l01Has_any HU.out hlt d _ (HD.out.below HB.out hdl)).mono ?_; rintro e w5 ⟨rfl, hb⟩; rw [HHN.out]; have HB5 : Hid (Below w.heap.size w w5) := Lib.hid (HB.out.trans (hb.mono HB.out.size)); clear hb)
                | (go_at_call 67; refine (HCg.out _ HB5.out).mono ?_; rintro e w6 ⟨rfl, hb⟩; have HB6 : Hid (Below w.heap.size w w6) := Lib.hid (HB5.out.trans (hb.mono HB5.out.size)); clear hb))
              go_roundw
              case rel => exact ⟨i + 1, be, mo, by omega, by go_num, rfl, rfl, HN, HB6⟩
              case measure => simp only [intOf]; omega
    · obtain rfl : i = 100 := by omega
      have HR : Hid (worS F b s wt U = (be, mo, decide (0 ≤ be))) := Lib.hid (by unfold worS; rw [HS.out])
      go_wp2
      go_ret3
      rw [HR.out]
      exact ⟨rfl, HB.out⟩
end Go.Proofs.Ytmhkechkkpppaaa
