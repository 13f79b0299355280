/- Scarecrows of a field: whether a list is as told, by the program. No condition but that the numbers are within their kinds. -/
import Derived.Test.YtndhmcjcnmiobaaS1
namespace Go.Proofs.Ytndhmcjcnmiobaa
open Go.RowKit Go.Proofs.YtndhmcjcnmiobaaW.PrintWords Go.Proofs.YtndhmcjcnmiobaaW.PrintLast Go.Proofs.YtndhmcjcnmiobaaW.PrintMore Go.Proofs.Ytndhmcjcnmiobaa.PAll
set_option linter.unusedSimpArgs false
set_option linter.unusedVariables false

/-- Whether one of the first i stands in a cell. -/
def seenTo (xs : List S61) (i : Nat) (k : Int) : Bool := anyTo (fun j => (rd_T61 xs (j : Int)).f0 == k) i
def scAt (F : Fld) (xs : List S61) (i : Nat) : Bool := scPlain (rd_T61 xs (i : Int)) && (F.place (rd_T61 xs (i : Int)).f0 && !(seenTo xs i (rd_T61 xs (i : Int)).f0))
def scOn (F : Fld) (xs : List S61) : Bool := decide (xs.length ≤ 20) && allB xs.length (scAt F xs)
theorem rd_take (xs : List S61) {i j : Nat} (h : j < i) : rd_T61 (xs.take i) (j : Int) = rd_T61 xs (j : Int) := by
  simp only [rd_T61, Int.toNat_natCast, List.getD_eq_getElem?_getD, List.getElem?_take_of_lt h]
theorem standsTake_any (xs : List S61) (hx : ScsOk xs) {i : Nat} (hi : i ≤ xs.length) (k : Int) (A : Option Addr) (c : Nat) (w : World) (hA : Kd.C k61 w A xs.length xs) :
    Calls Try.prog 58 #[.slice A i c, .int .i64 k] w fun e w' => e = .returned (.bool (seenTo xs i k)) ∧ Below w.heap.size w w' := by
  have hl : (xs.take i).length = i := by rw [List.length_take]; omega
  have h := stands_any (xs.take i) (fun j hj => by rw [rd_take xs (by omega)]; exact hx j (by omega)) k A c w (Kd.C_take hA hi)
  have e : standB (xs.take i) k = seenTo xs i k := by
    unfold standB seenTo anyTo
    rw [hl, Bool.eq_iff_iff, List.any_eq_true, List.any_eq_true]
    constructor
    · rintro ⟨j, hj, h⟩
      exact ⟨j, hj, by rw [← rd_take xs (List.mem_range.1 hj)]; exact h⟩
    · rintro ⟨j, hj, h⟩
      exact ⟨j, hj, by rw [rd_take xs (List.mem_range.1 hj)]; exact h⟩
  rw [hl, e] at h
  exact h

set_option maxHeartbeats 4000000 in
theorem areScares_any (F : Fld) (hF : F.Ok) (xs : List S61) (hx : ScsOk xs) (g : Nat) (A : Option Addr) (c : Nat) (hlc : xs.length ≤ c) (w : World) (hf : IsF w g F) (hA : Kd.C k61 w A xs.length xs) :
    Calls Try.prog 33 #[.pointer (some ⟨g, 0, none⟩), .slice A xs.length c] w fun e w' => e = .returned (.bool (scOn F xs)) ∧ Below w.heap.size w w' := by
  have HF := Lib.hid hf
  have HO := Lib.hid hF
  have HX := Lib.hid hx
  have HA := Lib.hid hA
  have hlen := hA.2.1
  have hfl := hf.lt
  clear hf hF hx hA
  by_cases h20 : xs.length ≤ 20
  case neg =>
    have HN : Hid (scOn F xs = false) := Lib.hid (by unfold scOn; rw [decide_eq_false h20]; rfl)
    go_enter Try.func33, Try.ntmps33
    go_wp2
    go_ret
    exact ⟨ret_bool HN.out.symm, Below.refl _ _⟩
  have HE : Hid (scOn F xs = allB xs.length (scAt F xs)) := Lib.hid (by unfold scOn; rw [decide_eq_true h20]; rfl)
  go_enter Try.func33, Try.ntmps33
  go_wp2
  go_loopw [13] (fun v wr => ∃ i : Nat, i ≤ xs.length ∧ v = .int .i64 i ∧ Hid (∀ j, j < i → scAt F xs j = true) ∧ Hid (Below w.heap.size w wr)) (fun v _ => xs.length - (intOf v).toNat)
  case atStart => exact ⟨0, by omega, rfl, Lib.hid (fun j hj => by omega), Lib.hid (Below.refl _ _)⟩
  case round =>
    obtain ⟨i, hi, rfl, HR, HB⟩ := hrel
    by_cases hlt : i < xs.length
    case neg =>
      have HN : Hid (scOn F xs = true) := Lib.hid (by rw [HE.out]; exact allB_yes fun j hj => HR.out j (by omega))
      go_wp2
      go_ret
      exact ⟨ret_bool HN.out.symm, HB.out⟩
    obtain ⟨ad, hA, x0, x1, x2⟩ := at_T61 (Kd.C_below HA.out HB.out) (i : Int) (by omega) (by omega)
    subst hA
    rw [Int.toNat_natCast] at x0 x1 x2
    have HXi := Lib.hid (HX.out i hlt)
    have HSt := Lib.hid (fun (w1 : World) (k : Int) (hb : Below w.heap.size w w1) => standsTake_any xs HX.out hi k (some ad) c w1 (Kd.C_below HA.out hb))
    have HAt : Hid (scAt F xs i = (scPlain (rd_T61 xs (i : Int)) && (F.place (rd_T61 xs (i : Int)).f0 && !(seenTo xs i (rd_T61 xs (i : Int)).f0)))) := Lib.hid rfl
    have HNo : Hid (scAt F xs i = false → scOn F xs = false) := Lib.hid (fun h => by rw [HE.out]; exact allB_no i hlt h)
    generalize rd_T61 xs (i : Int) = x at *
    obtain ⟨a0, a1, _, _, _, _⟩ := id HXi.out
    go_upto_region 6 with (fail)
    obtain ⟨W, hW⟩ : ∃ W, W = wr.alloc (.cells (scVals x).toArray 61) := ⟨_, rfl⟩
    have HC : Hid (Cls w [(g, F.vals, 31), (wr.heap.size, scVals x, 61)] W) := Lib.hid (by
      rw [hW]
      refine ⟨HB.out.alloc HB.out.size _, fun y hy => ?_⟩
      rcases List.mem_cons.1 hy with rfl | hy
      · exact (HF.out.below HB.out HF.out.lt).alloc _
      · rw [List.mem_singleton.1 hy]; exact Blk.new' _ _ _)
    have hW' : wr.alloc (.cells #[.int .i16 x.f0, .int .i16 x.f1, .int .i8 x.f2] 61) = W := hW.symm
    rw [hW']
    clear hW hW' x0 x1 x2
    have c0 : W.cell? ⟨wr.heap.size, 0, none⟩ = some (.int .i16 x.f0) := (HC.out.blk (wr.heap.size, scVals x, 61) (by simp)).cell rfl
    cases hp : scPlain x
    · have HP := Lib.hid hp
      have HN := Lib.hid (HNo.out (by rw [HAt.out, hp]; rfl))
      clear hp
      go_wp2_with (first
        | (with_reducible refine wpList_load_blk rfl 61 (.tmp 6) rfl _ 0 rfl (scVals x) _ (HC.out.blk (wr.heap.size, scVals x, 61) (by simp)) rfl Try.underlying61 rfl (by kernel_rfl) ?_)
        | (go_at_call 56; (with_reducible refine (scPlain_any x HXi.out _).mono ?_); rintro e w1 ⟨rfl, hb⟩; rw [HP.out]; have HC1 := Lib.hid (HC.out.step hb); clear hb))
      go_ret
      exact ⟨ret_bool HN.out.symm, HC1.out.below⟩
    · have HP := Lib.hid hp
      cases hh : F.place x.f0
      · have HH := Lib.hid hh
        have HN := Lib.hid (HNo.out (by rw [HAt.out, hp, hh]; rfl))
        clear hp hh
        go_wp2_with (first
          | (with_reducible refine wpList_load_blk rfl 61 (.tmp 6) rfl _ 0 rfl (scVals x) _ (HC.out.blk (wr.heap.size, scVals x, 61) (by simp)) rfl Try.underlying61 rfl (by kernel_rfl) ?_)
          | (go_at_call 56; (with_reducible refine (scPlain_any x HXi.out _).mono ?_); rintro e w1 ⟨rfl, hb⟩; rw [HP.out]; have HC1 := Lib.hid (HC.out.step hb); clear hb)
          | (go_at_call 57; (with_reducible refine (isPlace_any F HO.out _ _ _ (HC1.out.blk (g, F.vals, 31) (by simp))).mono ?_); rintro e w2 ⟨rfl, hb⟩; rw [HH.out]; have HC2 := Lib.hid (HC1.out.step hb); clear hb))
        go_ret
        exact ⟨ret_bool HN.out.symm, HC2.out.below⟩
      · have HH := Lib.hid hh
        cases hs : seenTo xs i x.f0
        · have HS := Lib.hid hs
          have HY : Hid (scAt F xs i = true) := Lib.hid (by rw [HAt.out, hp, hh, hs]; rfl)
          clear hp hh hs
          go_wp2_with (first
            | (with_reducible refine wpList_load_blk rfl 61 (.tmp 6) rfl _ 0 rfl (scVals x) _ (HC.out.blk (wr.heap.size, scVals x, 61) (by simp)) rfl Try.underlying61 rfl (by kernel_rfl) ?_)
            | (go_at_call 56; (with_reducible refine (scPlain_any x HXi.out _).mono ?_); rintro e w1 ⟨rfl, hb⟩; rw [HP.out]; have HC1 := Lib.hid (HC.out.step hb); clear hb)
            | (go_at_call 57; (with_reducible refine (isPlace_any F HO.out _ _ _ (HC1.out.blk (g, F.vals, 31) (by simp))).mono ?_); rintro e w2 ⟨rfl, hb⟩; rw [HH.out]; have HC2 := Lib.hid (HC1.out.step hb); clear hb)
            | (go_at_call 58; (with_reducible refine (HSt.out _ _ HC2.out.below).mono ?_); rintro e w3 ⟨rfl, hb⟩; rw [HS.out]; have HC3 := Lib.hid (HC2.out.step hb); clear hb))
          go_roundw
          case rel => exact ⟨i + 1, by omega, by go_num, Lib.hid (fun j hj => by
            rcases Nat.lt_or_ge j i with h | h
            · exact HR.out j h
            · have e : j = i := by omega
              rw [e]; exact HY.out), Lib.hid HC3.out.below⟩
          case measure => simp only [intOf]; omega
        · have HS := Lib.hid hs
          have HN := Lib.hid (HNo.out (by rw [HAt.out, hp, hh, hs]; rfl))
          clear hp hh hs
          go_wp2_with (first
            | (with_reducible refine wpList_load_blk rfl 61 (.tmp 6) rfl _ 0 rfl (scVals x) _ (HC.out.blk (wr.heap.size, scVals x, 61) (by simp)) rfl Try.underlying61 rfl (by kernel_rfl) ?_)
            | (go_at_call 56; (with_reducible refine (scPlain_any x HXi.out _).mono ?_); rintro e w1 ⟨rfl, hb⟩; rw [HP.out]; have HC1 := Lib.hid (HC.out.step hb); clear hb)
            | (go_at_call 57; (with_reducible refine (isPlace_any F HO.out _ _ _ (HC1.out.blk (g, F.vals, 31) (by simp))).mono ?_); rintro e w2 ⟨rfl, hb⟩; rw [HH.out]; have HC2 := Lib.hid (HC1.out.step hb); clear hb)
            | (go_at_call 58; (with_reducible refine (HSt.out _ _ HC2.out.below).mono ?_); rintro e w3 ⟨rfl, hb⟩; rw [HS.out]; have HC3 := Lib.hid (HC2.out.step hb); clear hb))
          go_ret
          exact ⟨ret_bool HN.out.symm, HC3.out.below⟩
end Go.Proofs.Ytndhmcjcnmiobaa
