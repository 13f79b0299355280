/- Sorting by merging in place, walked: the insertion sort, the merge, the whole. No condition but those that each theorem names. -/
import Derived.Test.YtgdkimdikalmkaaSY
import Derived.Deep.QuietTactic
namespace Go.Proofs.Ytgdkimdikalmkaa
open Go.RowKit Go.Proofs.YtgdkimdikalmkaaW.PrintWords Go.Proofs.YtgdkimdikalmkaaW.PrintLast Go.Proofs.YtgdkimdikalmkaaW.PrintMore
set_option linter.unusedSimpArgs false
set_option linter.unusedVariables false

/-- What is asked of the comparison: by a key, the greater first; it only draws. -/
def CmpOk (g : Nat) (caps : Array Value) (r : Nat → Int) (o n : Nat) (w0 : World) : Prop :=
  ∀ w1, Kept o w0 w1 → ∀ x y, x < n → y < n → Calls Try.prog g (#[.int .i64 (x : Int), .int .i64 (y : Int)] ++ caps) w1 fun e w' => e = .returned (.int .i64 (r y - r x)) ∧ ∃ q, w' = w1.drewN q
def In (D : Nat → Nat) (n : Nat) : Prop := ∀ i, i < n → D i < n
theorem In.sim {D D' : Nat → Nat} {a b n : Nat} (h : In D n) (hs : SM.Sim D' D a b) (hb : b ≤ n) : In D' n := fun i hi => by
  obtain ⟨j, _, h2, e⟩ := (hs.mono (Nat.zero_le a) hb).from i (Nat.zero_le i) hi
  rw [e]
  exact h j h2
section
variable {g o n cap : Nat} {caps : Array Value} {r : Nat → Int} {rest : List Value} {w0 : World}
set_option maxHeartbeats 4000000 in
theorem insertion_any {a b : Nat} (hab : a ≤ b) (hbn : b ≤ n) (hn : n ≤ 1000) (hC : CmpOk g caps r o n w0) (eg : ∀ args w, (callFunc g args).run Try.prog w = .ok (.enter g args) w) (D : Nat → Nat) (w : World) (hk : Kept o w0 w) (hO : Ord w o n rest D) (hin : In D n) (hst : SM.Stb r D n) :
    Calls Try.prog 93 #[.slice (some ⟨o, 0, none⟩) n cap, .int .i64 (a : Int), .int .i64 (b : Int), .func (.func g) #[] caps] w fun e w' => e = .returned (.tuple #[]) ∧ Kept o w0 w' ∧ ∃ D', SM.Sim D' D a b ∧ SM.Srt r D' a b ∧ Ord w' o n rest D' := by
  have HO := Lib.hid hO
  have HK0 := Lib.hid hk
  have HC := Lib.hid hC
  have HIN := Lib.hid hin
  have HST := Lib.hid hst
  clear hO hk hC hin hst
  have w1 : IntKind.i64.wrap ((a : Int) + 1) = (a : Int) + 1 := by rw [IntKind.wrap_i64]; omega
  go_enter Try.func93, Try.ntmps93
  go_wp2
  go_loopw [8, 9] (fun u v wr => ∃ (i : Nat) (E : Nat → Nat), a + 1 ≤ i ∧ i ≤ b + 1 ∧ u = .int .i64 (i : Int) ∧ Hid (Kept o w0 wr) ∧ Hid (Ord wr o n rest E) ∧ Hid (SM.Sim E D a i ∧ SM.Srt r E a i ∧ (i ≤ b → SM.Sim E D a b) ∧ (b < i → SM.Sim E D a b ∧ SM.Srt r E a b))) (fun u _ _ => b + 1 - (intOf u).toNat)
  case atStart =>
    refine ⟨a + 1, D, by omega, by omega, by go_num, HK0, HO, Lib.hid ⟨SM.Sim.refl _ _ _, fun i j h1 h2 h3 => by omega, fun _ => SM.Sim.refl _ _ _, fun h => ⟨SM.Sim.refl _ _ _, fun i j h1 h2 h3 => by omega⟩⟩⟩
  case round =>
    obtain ⟨i, E, hi1, hi2, rfl, HK, HD, HI⟩ := hrel
    by_cases hlt : i < b
    · have HST2 : Hid (∀ j, a ≤ j → j < i → r (E j) = r (E i) → E j < E i) := Lib.hid (fun j h1 h2 he => by
        obtain ⟨k, k1, k2, e⟩ := HI.out.1.from j h1 h2
        rw [e, HI.out.1.out i (by omega)] at he ⊢
        exact HST.out k i k2 (by omega) he)
      go_wp2
      go_loopw [9] (fun v wr => ∃ j : Nat, a ≤ j ∧ j ≤ i ∧ v = .int .i64 (j : Int) ∧ Hid (Kept o w0 wr) ∧ Hid (Ord wr o n rest (SM.shR E i j)) ∧ Hid (∀ k, j ≤ k → k < i → r (E k) < r (E i))) (fun v _ => (intOf v).toNat)
      case atStart => exact ⟨i, by omega, by omega, rfl, HK, by rw [SM.shR_zero]; exact HD, Lib.hid (fun k h1 h2 => by omega)⟩
      case round =>
        obtain ⟨j, haj, hji, rfl, HK2, HD2, H2⟩ := hrel
        have HOUT : Hid ((j = a ∨ r (E (j - 1)) ≥ r (E i)) → SM.Sim (SM.shR E i j) D a (i + 1) ∧ SM.Srt r (SM.shR E i j) a (i + 1)) := Lib.hid (fun hj => by
          refine ⟨(HI.out.1.mono (Nat.le_refl _) (by omega)).trans (SM.Sim.shR E (by omega) (i - j) j (by omega) haj), SM.Srt.shR haj hji HI.out.2.1 HST2.out (fun k h1 h2 => ?_) H2.out⟩
          rcases hj with hj | hj
          · omega
          · have := HI.out.2.1.mono h1 (show k ≤ j - 1 by omega) (by omega)
            omega)
        have HINE : Hid (In E n) := Lib.hid (HIN.out.sim (HI.out.2.2.1 (by omega)) hbn)
        by_cases hja : j = a
        · have hd : decide ((j : Int) > (a : Int)) = false := decide_eq_false (by omega)
          obtain ⟨h1, h2⟩ := HOUT.out (.inl hja)
          have HS1 := Lib.hid h1
          have HS2 := Lib.hid h2
          have wi : IntKind.i64.wrap ((i : Int) + 1) = (i : Int) + 1 := by rw [IntKind.wrap_i64]; omega
          clear h1 h2 HOUT
          go_wp2
          go_quiet (fail)
          all_goals
            refine name_ofS (fun w' => Kept o w0 w' ∧ Ord w' o n rest (SM.shR E i j)) ⟨HK2.out.drewN _, HD2.out.drewN _⟩ ?_
            rintro wz ⟨h1, h2⟩
            have HKz := Lib.hid h1
            have HDz := Lib.hid h2
            clear h1 h2
            go_wp2
            go_roundw
            case rel => exact ⟨i + 1, _, by omega, by omega, by go_num, HKz, HDz, Lib.hid ⟨HS1.out, HS2.out, fun h => HS1.out.mono (Nat.le_refl _) h, fun h => ⟨HS1.out.mono (Nat.le_refl _) (by omega), HS2.out.sub (Nat.le_refl _) (by omega)⟩⟩⟩
            case measure => simp only [intOf]; omega
        · obtain ⟨jp, rfl⟩ : ∃ jp, j = jp + 1 := ⟨j - 1, by omega⟩
          have hd : decide ((a : Int) < (jp : Int) + 1) = true := decide_eq_true (by omega)
          have hd2 : (a : Int) < (jp : Int) + 1 := by omega
          have ex : SM.shR E i (jp + 1) (jp + 1) = E i := by unfold SM.shR; rw [if_neg (by omega), if_pos rfl]
          have ey : SM.shR E i (jp + 1) jp = E jp := by unfold SM.shR; rw [if_neg (by omega), if_neg (by omega)]
          have cx := HD2.out.cell (i := jp + 1) (by omega)
          have cy := HD2.out.cell (i := jp) (by omega)
          rw [ex] at cx
          rw [ey] at cy
          have hxn := HINE.out i (by omega)
          have hyn := HINE.out jp (by omega)
          have w2 : IntKind.i64.wrap ((jp : Int) + 1 - 1) = (jp : Int) := by rw [IntKind.wrap_i64]; omega
          have c1 : (0 : Int) ≤ (jp : Int) + 1 := by omega
          have c2 : (jp : Int) + 1 < (n : Int) := by omega
          have c3 : (jp : Int) < (n : Int) := by omega
          have hcall := HC.out
          have hkq := fun m => HK2.out.drewN m
          go_wp2
          go_quiet (first | (go_at_fn g; refine Calls.quiet_of (hcall _ (hkq _) (E i) (E jp) hxn hyn)))
          refine name_ofS (fun w' => Kept o w0 w' ∧ Ord w' o n rest (SM.shR E i (jp + 1))) ⟨HK2.out.drewN _, HD2.out.drewN _⟩ ?_
          rintro wz ⟨h1, h2⟩
          have HKz := Lib.hid h1
          have HDz := Lib.hid h2
          clear h1 h2 cx cy
          by_cases hrr : r (E jp) < r (E i)
          · have hd3 : decide (r (E jp) - r (E i) < 0) = true := decide_eq_true (by omega)
            have hd4 : r (E jp) - r (E i) < 0 := by omega
            have HSW : Hid (SM.shR E i jp = SM.swp (SM.shR E i (jp + 1)) (jp + 1) jp) := Lib.hid (SM.shR_succ E (by omega))
            have HRR := Lib.hid hrr
            have cx := HDz.out.cell (i := jp + 1) (by omega)
            have cy := HDz.out.cell (i := jp) (by omega)
            have fx := HDz.out.free (jp + 1)
            have fy := HDz.out.free jp
            have HS := Lib.hid (HDz.out.swap (i := jp + 1) (j := jp) (by omega) (by omega))
            have cy2 : ∃ v, (wz.setCell ⟨o, jp + 1, none⟩ (.int .i64 (SM.shR E i (jp + 1) jp : Int))).cell? ⟨o, jp, none⟩ = some v := ⟨_, (HDz.out.set (i := jp + 1) (by omega) (SM.shR E i (jp + 1) jp)).cell (by omega)⟩
            obtain ⟨vy, cy2⟩ := cy2
            rw [ex, ey] at HS
            rw [ex] at cx
            rw [ey] at cy cy2
            clear ex ey hrr HDz hcall hkq
            go_wp2
            go_region
            all_goals
              refine name_ofS (fun w' => Kept o w0 w' ∧ Ord w' o n rest (SM.swp (SM.shR E i (jp + 1)) (jp + 1) jp)) ⟨by first | exact (HKz.out.set _ _).set _ _ | exact ((HKz.out.set _ _).set _ _).drewN 1, by first | exact HS.out | exact HS.out.drewN 1⟩ ?_
              rintro wy ⟨h1, h2⟩
              have HKy := Lib.hid h1
              have HDy := Lib.hid h2
              clear h1 h2 cx cy cy2 fx fy HS
              go_wp2
              go_roundw
              case rel => exact ⟨jp, by omega, by omega, by go_num, HKy, by rw [HSW.out]; exact HDy, Lib.hid (fun k h1 h2 => by
                by_cases e : k = jp
                · rw [e]; exact HRR.out
                · exact H2.out k (by omega) h2)⟩
              case measure => simp only [intOf]; omega
          · have hd3 : decide (r (E jp) - r (E i) < 0) = false := decide_eq_false (by omega)
            have hd4 : ¬ (r (E jp) - r (E i) < 0) := by omega
            obtain ⟨h1, h2⟩ := HOUT.out (.inr (by rw [Nat.add_sub_cancel]; omega))
            have HS1 := Lib.hid h1
            have HS2 := Lib.hid h2
            have wi : IntKind.i64.wrap ((i : Int) + 1) = (i : Int) + 1 := by rw [IntKind.wrap_i64]; omega
            clear h1 h2 HOUT hrr hcall hkq
            go_wp2
            go_roundw
            case rel => exact ⟨i + 1, _, by omega, by omega, by go_num, HKz, HDz, Lib.hid ⟨HS1.out, HS2.out, fun h => HS1.out.mono (Nat.le_refl _) h, fun h => ⟨HS1.out.mono (Nat.le_refl _) (by omega), HS2.out.sub (Nat.le_refl _) (by omega)⟩⟩⟩
            case measure => simp only [intOf]; omega
    · go_wp2
      go_end0
      have h := HI.out
      by_cases hb : i ≤ b
      · obtain rfl : i = b := by omega
        exact ⟨rfl, HK.out, E, h.1, h.2.1, HD.out⟩
      · exact ⟨rfl, HK.out, E, (h.2.2.2 (by omega)).1, (h.2.2.2 (by omega)).2, HD.out⟩
end
end Go.Proofs.Ytgdkimdikalmkaa
