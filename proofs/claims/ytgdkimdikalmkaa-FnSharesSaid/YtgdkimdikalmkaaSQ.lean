/- Sorting by merging in place, walked: the merge. No condition but those that each theorem names. -/
import Derived.Test.YtgdkimdikalmkaaSZ
namespace Go.Proofs.Ytgdkimdikalmkaa
open Go.RowKit Go.Proofs.YtgdkimdikalmkaaW.PrintWords Go.Proofs.YtgdkimdikalmkaaW.PrintLast Go.Proofs.YtgdkimdikalmkaaW.PrintMore
set_option linter.unusedSimpArgs false
set_option linter.unusedVariables false

theorem SM.rot_nil (D : Nat → Nat) {s m e : Nat} (h : s = m ∨ m = e) (h1 : s ≤ m) (h2 : m ≤ e) : SM.rot D s m e = D := by
  funext i
  unfold SM.rot
  repeat' split
  all_goals first
    | (exfalso; omega)
    | (congr 1; omega)
    | rfl
theorem SM.lo_next {r : Nat → Int} {D : Nat → Nat} {a m b mid s0 h : Nat} (hs1 : SM.Srt r D a m) (hs2 : SM.Srt r D m b) (n4 : a ≤ s0) (hm : h < m) (hmid : h < mid) (n5 : mid + m ≤ s0 + b) (hr : ¬ r (D h) < r (D (mid + m - 1 - h))) : ∀ c, s0 ≤ c → c < h + 1 → r (D c) ≥ r (D (mid + m - 1 - c)) := fun c h1 h2 => by
  have h4 := hs1.mono (show a ≤ c by omega) (show c ≤ h by omega) hm
  have h5 := hs2.mono (show m ≤ mid + m - 1 - h by omega) (show mid + m - 1 - h ≤ mid + m - 1 - c by omega) (by omega)
  omega
theorem SM.hi_next {r : Nat → Int} {D : Nat → Nat} {a m b mid r0 h : Nat} (hs1 : SM.Srt r D a m) (hs2 : SM.Srt r D m b) (n4 : a ≤ h) (hm : r0 ≤ m) (hmid : r0 ≤ mid) (n5 : mid + m ≤ h + b) (hr : r (D h) < r (D (mid + m - 1 - h))) : ∀ c, h ≤ c → c < r0 → r (D (mid + m - 1 - c)) > r (D c) := fun c h1 h2 => by
  have h4 := hs1.mono n4 h1 (show c < m by omega)
  have h5 := hs2.mono (show m ≤ mid + m - 1 - c by omega) (show mid + m - 1 - c ≤ mid + m - 1 - h by omega) (by omega)
  omega
section
variable {g o n cap : Nat} {caps : Array Value} {r : Nat → Int} {rest : List Value} {w0 : World}
set_option maxRecDepth 100000 in
set_option maxHeartbeats 16000000 in
theorem symMerge_any (hn : n ≤ 1000) (hC : CmpOk g caps r o n w0) (eg : ∀ args w, (callFunc g args).run Try.prog w = .ok (.enter g args) w) : ∀ (N a m b : Nat) (D : Nat → Nat) (w : World), b - a < N → a < m → m < b → b ≤ n → Kept o w0 w → Ord w o n rest D → In D n → SM.Srt r D a m → SM.Srt r D m b → SM.Crs r D a m b →
    Calls Try.prog 94 #[.slice (some ⟨o, 0, none⟩) n cap, .int .i64 (a : Int), .int .i64 (m : Int), .int .i64 (b : Int), .func (.func g) #[] caps] w fun e w' => e = .returned (.tuple #[]) ∧ Kept o w0 w' ∧ ∃ D', SM.Sim D' D a b ∧ SM.Srt r D' a b ∧ Ord w' o n rest D' := by
  have HC := Lib.hid hC
  clear hC
  intro N
  induction N with
  | zero => intro _ _ _ _ _ h; exact absurd h (Nat.not_lt_zero _)
  | succ N ih =>
    intro a m b D w hN ham hmb hbn hk hO hin hs1 hs2 hx
    have HK := Lib.hid hk
    have HO := Lib.hid hO
    have HIN := Lib.hid hin
    have HS1 := Lib.hid hs1
    have HS2 := Lib.hid hs2
    have HX := Lib.hid hx
    clear hk hO hin hs1 hs2 hx
    go_enter Try.func94, Try.ntmps94
    by_cases h1 : m = a + 1
    · subst h1
      have e1 : IntKind.i64.wrap (((a + 1 : Nat) : Int) - (a : Int)) = 1 := by rw [IntKind.wrap_i64]; omega
      have e1' : IntKind.i64.wrap ((a : Int) + 1 - (a : Int)) = 1 := by rw [IntKind.wrap_i64]; omega
      go_wp2
      go_loopw [10, 11, 12] (fun u v x wr => ∃ i j : Nat, a + 1 ≤ i ∧ i ≤ j ∧ j ≤ b ∧ u = .int .i64 (i : Int) ∧ v = .int .i64 (j : Int) ∧ Hid (Kept o w0 wr) ∧ Hid (Ord wr o n rest D) ∧ Hid (∀ k, a < k → k < i → r (D k) > r (D a)) ∧ Hid (∀ k, j ≤ k → k < b → r (D k) ≤ r (D a))) (fun u v _ _ => (intOf v).toNat - (intOf u).toNat)
      case atStart => exact ⟨a + 1, b, by omega, by omega, by omega, by go_num, rfl, HK, HO, Lib.hid (fun k h1 h2 => by omega), Lib.hid (fun k h1 h2 => by omega)⟩
      case round =>
        obtain ⟨i, j, hi, hij, hjb, rfl, rfl, HK2, HD2, HA, HB⟩ := hrel
        by_cases hlt : i < j
        · obtain ⟨h, hh⟩ : ∃ h, h = (i + j) / 2 := ⟨_, rfl⟩
          have wh : IntKind.i64.wrap ((i : Int) + (j : Int)) = (i : Int) + (j : Int) := by rw [IntKind.wrap_i64]; omega
          have wh2 : IntKind.u64.wrap ((i : Int) + (j : Int)) = (i : Int) + (j : Int) := by simp [IntKind.wrap, IntKind.bits, IntKind.signed]; omega
          have wh3 : ((i : Int) + (j : Int)) / 2 = (h : Int) := by omega
          have wh4 : IntKind.i64.wrap (h : Int) = (h : Int) := by rw [IntKind.wrap_i64]; omega
          have wh5 : IntKind.i64.wrap ((h : Int) + 1) = (h : Int) + 1 := by rw [IntKind.wrap_i64]; omega
          have hi0 : i ≤ h := by omega
          have hj0 : h < j := by omega
          clear hh
          have cx := HD2.out.cell (i := h) (by omega)
          have cy := HD2.out.cell (i := a) (by omega)
          have hcall := fun m => HC.out _ (HK2.out.drewN m) (D h) (D a) (HIN.out h (by omega)) (HIN.out a (by omega))
          have p1 : (0 : Int) ≤ (h : Int) := by omega
          have p2 : (h : Int) < (n : Int) := by omega
          have p3 : (a : Int) < (n : Int) := by omega
          go_wp2
          go_quiet (first | (go_at_fn g; refine Calls.quiet_of (hcall _)))
          refine name_ofS (fun w' => Kept o w0 w' ∧ Ord w' o n rest D) ⟨HK2.out.drewN _, HD2.out.drewN _⟩ ?_
          rintro wz ⟨k1, k2⟩
          have HKz := Lib.hid k1
          have HDz := Lib.hid k2
          clear k1 k2 cx cy hcall
          by_cases hrr : r (D a) < r (D h)
          · have hd3 : decide (r (D a) - r (D h) < 0) = true := decide_eq_true (by omega)
            have hd4 : r (D a) - r (D h) < 0 := by omega
            have HRR := Lib.hid hrr
            clear hrr
            go_wp2
            go_roundw
            case rel => exact ⟨h + 1, j, by omega, by omega, hjb, by go_num, rfl, HKz, HDz, Lib.hid (fun k h1 h2 => by
              have h3 := HRR.out
              have h4 := HS2.out.mono (show a + 1 ≤ k by omega) (show k ≤ h by omega) (by omega)
              omega), HB⟩
            case measure => simp only [intOf]; omega
          · have hd3 : decide (r (D a) - r (D h) < 0) = false := decide_eq_false (by omega)
            have hd4 : ¬ (r (D a) - r (D h) < 0) := by omega
            have HRR := Lib.hid hrr
            clear hrr
            go_wp2
            go_roundw
            case rel => exact ⟨i, h, by omega, by omega, by omega, rfl, by go_num, HKz, HDz, HA, Lib.hid (fun k h1 h2 => by
              have h3 := HRR.out
              have h4 := HS2.out.mono (show a + 1 ≤ h by omega) h1 h2
              omega)⟩
            case measure => simp only [intOf]; omega
        · obtain rfl : i = j := by omega
          have HR := Lib.hid (SM.Srt.shL hi hjb HS2.out (fun k h1 h2 => HX.out a k (Nat.le_refl _) (by omega) (by omega) h2) HA.out HB.out)
          have HM := Lib.hid (SM.Sim.shL D (a := a) (b := b) (i - 1) (by omega) (by omega))
          clear HA HB
          go_wp2
          go_loopw [13] (fun u wr => ∃ k : Nat, a ≤ k ∧ k ≤ i - 1 ∧ u = .int .i64 (k : Int) ∧ Hid (Kept o w0 wr) ∧ Hid (Ord wr o n rest (SM.shL D a k))) (fun u _ => i - (intOf u).toNat)
          case atStart => exact ⟨a, by omega, by omega, rfl, HK2, by rw [SM.shL_zero]; exact HD2⟩
          case round =>
            clear HK2 HD2
            obtain ⟨k, hk1, hk2, rfl, HK2, HD2⟩ := hrel
            have wi : IntKind.i64.wrap ((i : Int) - 1) = (i : Int) - 1 := by rw [IntKind.wrap_i64]; omega
            by_cases hlt2 : k < i - 1
            · have HN := Lib.hid (SM.shL_succ D hk1)
              generalize SM.shL D a k = E at *
              have hz : (k : Int) < (i : Int) - 1 := by omega
              have cx := HD2.out.cell (i := k) (by omega)
              have cy := HD2.out.cell (i := k + 1) (by omega)
              have fx := HD2.out.free (k)
              have fy := HD2.out.free (k + 1)
              have HS := Lib.hid (HD2.out.swap (i := k) (j := k + 1) (by omega) (by omega))
              obtain ⟨vx, hvx⟩ : ∃ v, v = (E) (k) := ⟨_, rfl⟩
              obtain ⟨vy, hvy⟩ : ∃ v, v = (E) (k + 1) := ⟨_, rfl⟩
              have cy2 : ∃ v, (wr.setCell ⟨o, k, none⟩ (.int .i64 (vy : Int))).cell? ⟨o, k + 1, none⟩ = some v := ⟨_, (HD2.out.set (i := k) (by omega) vy).cell (by omega)⟩
              obtain ⟨vz, cy2⟩ := cy2
              rw [← hvx, ← hvy] at HS
              rw [← hvx] at cx
              rw [← hvy] at cy
              clear hvx hvy
              have q1 : (0 : Int) ≤ (k : Int) + 1 := by omega
              have q2 : (k : Int) + 1 < (n : Int) := by omega
              have q3 : (k : Int) < (n : Int) := by omega
              have q4 : IntKind.i64.wrap ((k : Int) + 1) = (k : Int) + 1 := by rw [IntKind.wrap_i64]; omega
              go_wp2
              go_region
              all_goals
                refine name_ofS (fun w' => Kept o w0 w' ∧ Ord w' o n rest (SM.swp (E) (k) (k + 1))) ⟨by first | exact (HK2.out.set _ _).set _ _ | exact ((HK2.out.set _ _).set _ _).drewN 1, by first | exact HS.out | exact HS.out.drewN 1⟩ ?_
                rintro wy ⟨h1, h2⟩
                have HKy := Lib.hid h1
                have HDy := Lib.hid h2
                clear h1 h2 cx cy cy2 fx fy HS
                go_wp2
                go_roundw
                case rel => exact ⟨k + 1, by omega, by omega, by go_num, HKy, by rw [HN.out]; exact HDy⟩
                case measure => simp only [intOf]; omega
            · obtain rfl : k = i - 1 := by omega
              have hz : ¬ (((i - 1 : Nat) : Int) < (i : Int) - 1) := by omega
              go_wp2
              (try simp only [Exit.inBlock, Exit.then]); refine bodyPost_ret (results_none rfl _ _ _) rfl ?_
              exact ⟨rfl, HK2.out, _, HM.out, HR.out, HD2.out⟩
    have f0 : m ≠ a + 1 := h1
    have z1 : ¬ ((m : Int) - (a : Int) = 1) := by omega
    have g1 : IntKind.i64.wrap ((m : Int) - (a : Int)) = (m : Int) - (a : Int) := by rw [IntKind.wrap_i64]; omega
    have g2 : ((m : Int) - (a : Int) == 1) = false := by simp; omega
    by_cases h2 : b = m + 1
    · have hb1 : b ≤ m + 1 := by omega
      have hb2 : m + 1 ≤ b := by omega
      have e2 : IntKind.i64.wrap ((b : Int) - (m : Int)) = 1 := by rw [IntKind.wrap_i64]; omega
      clear h2
      go_wp2
      go_loopw [14, 15, 16] (fun u v x wr => ∃ i j : Nat, a ≤ i ∧ i ≤ j ∧ j ≤ m ∧ u = .int .i64 (i : Int) ∧ v = .int .i64 (j : Int) ∧ Hid (Kept o w0 wr) ∧ Hid (Ord wr o n rest D) ∧ Hid (∀ k, a ≤ k → k < i → r (D k) ≥ r (D m)) ∧ Hid (∀ k, j ≤ k → k < m → r (D k) < r (D m))) (fun u v _ _ => (intOf v).toNat - (intOf u).toNat)
      case atStart => exact ⟨a, m, by omega, by omega, by omega, rfl, rfl, HK, HO, Lib.hid (fun k h1 h2 => by omega), Lib.hid (fun k h1 h2 => by omega)⟩
      case round =>
        obtain ⟨i, j, hi, hij, hjb, rfl, rfl, HK2, HD2, HA, HB⟩ := hrel
        by_cases hlt : i < j
        · obtain ⟨h, hh⟩ : ∃ h, h = (i + j) / 2 := ⟨_, rfl⟩
          have wh : IntKind.i64.wrap ((i : Int) + (j : Int)) = (i : Int) + (j : Int) := by rw [IntKind.wrap_i64]; omega
          have wh2 : IntKind.u64.wrap ((i : Int) + (j : Int)) = (i : Int) + (j : Int) := by simp [IntKind.wrap, IntKind.bits, IntKind.signed]; omega
          have wh3 : ((i : Int) + (j : Int)) / 2 = (h : Int) := by omega
          have wh4 : IntKind.i64.wrap (h : Int) = (h : Int) := by rw [IntKind.wrap_i64]; omega
          have wh5 : IntKind.i64.wrap ((h : Int) + 1) = (h : Int) + 1 := by rw [IntKind.wrap_i64]; omega
          have hi0 : i ≤ h := by omega
          have hj0 : h < j := by omega
          clear hh
          have cx := HD2.out.cell (i := m) (by omega)
          have cy := HD2.out.cell (i := h) (by omega)
          have hcall := fun q => HC.out _ (HK2.out.drewN q) (D m) (D h) (HIN.out m (by omega)) (HIN.out h (by omega))
          have p1 : (0 : Int) ≤ (h : Int) := by omega
          have p2 : (h : Int) < (n : Int) := by omega
          have p3 : (m : Int) < (n : Int) := by omega
          by_cases hrr : r (D h) < r (D m)
          · have hd3 : decide (r (D h) - r (D m) < 0) = true := decide_eq_true (by omega)
            have hd4 : r (D h) - r (D m) < 0 := by omega
            have hd5 : (!decide (r (D h) - r (D m) < 0)) = false := by rw [hd3]; rfl
            have HRR := Lib.hid hrr
            clear hrr
            go_wp2
            go_quiet (first | (go_at_fn g; refine Calls.quiet_of (hcall _)))
            refine name_ofS (fun w' => Kept o w0 w' ∧ Ord w' o n rest D) ⟨HK2.out.drewN _, HD2.out.drewN _⟩ ?_
            rintro wz ⟨k1, k2⟩
            have HKz := Lib.hid k1
            have HDz := Lib.hid k2
            clear k1 k2 cx cy hcall
            go_wp2
            go_roundw
            case rel => exact ⟨i, h, by omega, by omega, by omega, rfl, by go_num, HKz, HDz, HA, Lib.hid (fun k h1 h2 => by
              have h3 := HRR.out
              have h4 := HS1.out.mono (show a ≤ h by omega) h1 h2
              omega)⟩
            case measure => simp only [intOf]; omega
          · have hd3 : decide (r (D h) - r (D m) < 0) = false := decide_eq_false (by omega)
            have hd4 : ¬ (r (D h) - r (D m) < 0) := by omega
            have hd5 : (!decide (r (D h) - r (D m) < 0)) = true := by rw [hd3]; rfl
            have HRR := Lib.hid hrr
            clear hrr
            go_wp2
            go_quiet (first | (go_at_fn g; refine Calls.quiet_of (hcall _)))
            refine name_ofS (fun w' => Kept o w0 w' ∧ Ord w' o n rest D) ⟨HK2.out.drewN _, HD2.out.drewN _⟩ ?_
            rintro wz ⟨k1, k2⟩
            have HKz := Lib.hid k1
            have HDz := Lib.hid k2
            clear k1 k2 cx cy hcall
            go_wp2
            go_roundw
            case rel => exact ⟨h + 1, j, by omega, by omega, hjb, by go_num, rfl, HKz, HDz, Lib.hid (fun k h1 h2 => by
              have h3 := HRR.out
              have h4 := HS1.out.mono h1 (show k ≤ h by omega) (by omega)
              omega), HB⟩
            case measure => simp only [intOf]; omega
        · obtain rfl : i = j := by omega
          have HR : Hid (SM.Srt r (SM.shR D m i) a b) := Lib.hid (by rw [show b = m + 1 by omega]; exact SM.Srt.shR hi hjb HS1.out (fun k h1 h2 => HX.out k m h1 h2 (Nat.le_refl _) (by omega)) HA.out HB.out)
          have HM := Lib.hid (SM.Sim.shR D (a := a) (b := b) (m := m) (by omega) (m - i) i (by omega) hi)
          clear HA HB
          go_wp2
          go_loopw [17] (fun u wr => ∃ k : Nat, i ≤ k ∧ k ≤ m ∧ u = .int .i64 (k : Int) ∧ Hid (Kept o w0 wr) ∧ Hid (Ord wr o n rest (SM.shR D m k))) (fun u _ => (intOf u).toNat)
          case atStart => exact ⟨m, by omega, by omega, rfl, HK2, by rw [SM.shR_zero]; exact HD2⟩
          case round =>
            clear HK2 HD2
            obtain ⟨k, hk1, hk2, rfl, HK2, HD2⟩ := hrel
            by_cases hlt2 : i < k
            · obtain ⟨kp, rfl⟩ : ∃ kp, k = kp + 1 := ⟨k - 1, by omega⟩
              have HN := Lib.hid (SM.shR_succ D (m := m) (i := kp) (by omega))
              generalize SM.shR D m (kp + 1) = E at *
              have w2 : IntKind.i64.wrap ((kp : Int) + 1 - 1) = (kp : Int) := by rw [IntKind.wrap_i64]; omega
              have cx := HD2.out.cell (i := kp + 1) (by omega)
              have cy := HD2.out.cell (i := kp) (by omega)
              have fx := HD2.out.free (kp + 1)
              have fy := HD2.out.free (kp)
              have HS := Lib.hid (HD2.out.swap (i := kp + 1) (j := kp) (by omega) (by omega))
              obtain ⟨vx, hvx⟩ : ∃ v, v = (E) (kp + 1) := ⟨_, rfl⟩
              obtain ⟨vy, hvy⟩ : ∃ v, v = (E) (kp) := ⟨_, rfl⟩
              have cy2 : ∃ v, (wr.setCell ⟨o, kp + 1, none⟩ (.int .i64 (vy : Int))).cell? ⟨o, kp, none⟩ = some v := ⟨_, (HD2.out.set (i := kp + 1) (by omega) vy).cell (by omega)⟩
              obtain ⟨vz, cy2⟩ := cy2
              rw [← hvx, ← hvy] at HS
              rw [← hvx] at cx
              rw [← hvy] at cy
              clear hvx hvy
              have q1 : (0 : Int) ≤ (kp : Int) + 1 := by omega
              have q2 : (kp : Int) + 1 < (n : Int) := by omega
              have q3 : (kp : Int) < (n : Int) := by omega
              go_wp2
              go_region
              all_goals
                refine name_ofS (fun w' => Kept o w0 w' ∧ Ord w' o n rest (SM.swp (E) (kp + 1) (kp))) ⟨by first | exact (HK2.out.set _ _).set _ _ | exact ((HK2.out.set _ _).set _ _).drewN 1, by first | exact HS.out | exact HS.out.drewN 1⟩ ?_
                rintro wy ⟨h1, h2⟩
                have HKy := Lib.hid h1
                have HDy := Lib.hid h2
                clear h1 h2 cx cy cy2 fx fy HS
                go_wp2
                go_roundw
                case rel => exact ⟨kp, by omega, by omega, by go_num, HKy, by rw [HN.out]; exact HDy⟩
                case measure => simp only [intOf]; omega
            · obtain rfl : k = i := by omega
              go_wp2
              (try simp only [Exit.inBlock, Exit.then]); refine bodyPost_ret (results_none rfl _ _ _) rfl ?_
              exact ⟨rfl, HK2.out, _, HM.out, HR.out, HD2.out⟩
    obtain ⟨mid, hmid⟩ : ∃ mid, mid = (a + b) / 2 := ⟨_, rfl⟩
    have HMID := Lib.hid hmid
    have m1 : a ≤ mid := by omega
    have m2 : mid < b := by omega
    have m3 : 2 * mid ≤ a + b := by omega
    have m4 : a + b ≤ 2 * mid + 1 := by omega
    have v3 : ((a : Int) + (b : Int)) / 2 = (mid : Int) := by omega
    clear hmid
    have v1 : IntKind.i64.wrap ((a : Int) + (b : Int)) = (a : Int) + (b : Int) := by rw [IntKind.wrap_i64]; omega
    have v2 : IntKind.u64.wrap ((a : Int) + (b : Int)) = (a : Int) + (b : Int) := by simp [IntKind.wrap, IntKind.bits, IntKind.signed]; omega
    have v4 : IntKind.i64.wrap (mid : Int) = (mid : Int) := by rw [IntKind.wrap_i64]; omega
    obtain ⟨nn, hnn⟩ : ∃ nn, nn = mid + m := ⟨_, rfl⟩
    obtain ⟨pq, hpq⟩ : ∃ pq, pq + 1 = nn := ⟨nn - 1, by omega⟩
    have v5 : IntKind.i64.wrap ((mid : Int) + (m : Int)) = (nn : Int) := by rw [IntKind.wrap_i64]; omega
    have v6 : IntKind.i64.wrap ((nn : Int) - 1) = (pq : Int) := by rw [IntKind.wrap_i64]; omega
    have nn1 : nn ≤ mid + m := by omega
    have nn2 : mid + m ≤ nn := by omega
    have nn3 : pq + 1 ≤ nn := by omega
    have nn4 : nn ≤ pq + 1 := by omega
    clear hnn hpq
    have f1 : IntKind.i64.wrap ((m : Int) - (a : Int)) = (m : Int) - (a : Int) := by rw [IntKind.wrap_i64]; omega
    have f2 : IntKind.i64.wrap ((b : Int) - (m : Int)) = (b : Int) - (m : Int) := by rw [IntKind.wrap_i64]; omega
    have f3 : ((m : Int) - (a : Int) == 1) = false := by simp; omega
    have f4 : ((b : Int) - (m : Int) == 1) = false := by simp; omega
    by_cases hmm : mid < m
    · obtain ⟨s0, hs0⟩ : ∃ s0, s0 = mid + m - b := ⟨_, rfl⟩
      obtain ⟨r0, hr0⟩ : ∃ r0, r0 = mid := ⟨_, rfl⟩
      have h0 : (mid < m ∧ s0 = mid + m - b ∧ r0 = mid) ∨ (m ≤ mid ∧ s0 = a ∧ r0 = m) := .inl ⟨hmm, hs0, hr0⟩
      have v7 : IntKind.i64.wrap ((nn : Int) - (b : Int)) = (s0 : Int) := by rw [IntKind.wrap_i64]; omega
      have HS0 := Lib.hid hs0
      have HR0 := Lib.hid hr0
      have HH0 := Lib.hid h0
      have n1 : s0 ≤ r0 := by omega
      have n2 : r0 ≤ m := by omega
      have n3 : r0 ≤ mid := by omega
      have n4 : a ≤ s0 := by omega
      have n5 : mid + m ≤ s0 + b := by omega
      clear hs0 hr0 h0
      go_wp2
      go_loopw [20, 21, 23] (fun u v x wr => ∃ i j : Nat, s0 ≤ i ∧ i ≤ j ∧ j ≤ r0 ∧ u = .int .i64 (i : Int) ∧ v = .int .i64 (j : Int) ∧ Hid (Kept o w0 wr) ∧ Hid (Ord wr o n rest D) ∧ Hid (∀ c, s0 ≤ c → c < i → r (D c) ≥ r (D (mid + m - 1 - c))) ∧ Hid (∀ c, j ≤ c → c < r0 → r (D (mid + m - 1 - c)) > r (D c))) (fun u v _ _ => (intOf v).toNat - (intOf u).toNat)
      case atStart => exact ⟨s0, r0, by omega, by omega, by omega, rfl, by rw [HR0.out], HK, HO, Lib.hid (fun k h1 h2 => by omega), Lib.hid (fun k h1 h2 => by omega)⟩
      case round =>
        obtain ⟨i, j, hi, hij, hjb, rfl, rfl, HK2, HD2, HA, HB⟩ := hrel
        by_cases hlt : i < j
        · obtain ⟨h, hh⟩ : ∃ h, h = (i + j) / 2 := ⟨_, rfl⟩
          have wh : IntKind.i64.wrap ((i : Int) + (j : Int)) = (i : Int) + (j : Int) := by rw [IntKind.wrap_i64]; omega
          have wh2 : IntKind.u64.wrap ((i : Int) + (j : Int)) = (i : Int) + (j : Int) := by simp [IntKind.wrap, IntKind.bits, IntKind.signed]; omega
          have wh3 : ((i : Int) + (j : Int)) / 2 = (h : Int) := by omega
          have wh4 : IntKind.i64.wrap (h : Int) = (h : Int) := by rw [IntKind.wrap_i64]; omega
          have wh5 : IntKind.i64.wrap ((h : Int) + 1) = (h : Int) + 1 := by rw [IntKind.wrap_i64]; omega
          have hi0 : i ≤ h := by omega
          have hj0 : h < j := by omega
          clear hh
          obtain ⟨pp, hpp⟩ : ∃ d, d = pq - h := ⟨_, rfl⟩
          have hpm : mid + m - 1 - h = pp := by omega
          have hz2 : (pp : Int) < (n : Int) := by omega
          have wz : IntKind.i64.wrap ((pq : Int) - (h : Int)) = (pp : Int) := by rw [IntKind.wrap_i64]; omega
          have cx := HD2.out.cell (i := pp) (by omega)
          have cy := HD2.out.cell (i := h) (by omega)
          have hcall := fun q => HC.out _ (HK2.out.drewN q) (D pp) (D h) (HIN.out _ (by omega)) (HIN.out h (by omega))
          obtain ⟨dp, hdp⟩ : ∃ d, d = D pp := ⟨_, rfl⟩
          rw [← hdp] at cx hcall
          have HDP : Hid (dp = D (mid + m - 1 - h)) := Lib.hid (by rw [hpm]; exact hdp)
          clear hdp hpp hpm
          have p1 : (0 : Int) ≤ (h : Int) := by omega
          have p2 : (h : Int) < (n : Int) := by omega
          by_cases hrr : r (D h) < r dp
          · have hd3 : decide (r (D h) - r dp < 0) = true := decide_eq_true (by omega)
            have hd4 : r (D h) - r dp < 0 := by omega
            have hd5 : (!decide (r (D h) - r dp < 0)) = false := by rw [hd3]; rfl
            have HNX := Lib.hid (SM.hi_next HS1.out HS2.out (show a ≤ h by omega) n2 n3 (show mid + m ≤ h + b by omega) (show r (D h) < r (D (mid + m - 1 - h)) by rw [← HDP.out]; exact hrr))
            clear hrr
            go_wp2
            refine wp_region_quiet_lit (by kernel_rfl) (by kernel_rfl) ?_
            quiet_step (first | (go_at_fn g; refine Calls.quiet_of (hcall _)))
            quiet_step (first | (go_at_fn g; refine Calls.quiet_of (hcall _)))
            quiet_step (first | (go_at_fn g; refine Calls.quiet_of (hcall _)))
            quiet_step (first | (go_at_fn g; refine Calls.quiet_of (hcall _)))
            quiet_step (first | (go_at_fn g; refine Calls.quiet_of (hcall _)))
            quiet_step (first | (go_at_fn g; refine Calls.quiet_of (hcall _)))
            quiet_step (first | (go_at_fn g; refine Calls.quiet_of (hcall _)))
            quiet_step (first | (go_at_fn g; refine Calls.quiet_of (hcall _)))
            quiet_step (first | (go_at_fn g; refine Calls.quiet_of (hcall _)))
            quiet_step (first | (go_at_fn g; refine Calls.quiet_of (hcall _)))
            quiet_step (first | (go_at_fn g; refine Calls.quiet_of (hcall _)))
            quiet_step (first | (go_at_fn g; refine Calls.quiet_of (hcall _)))
            quiet_step (first | (go_at_fn g; refine Calls.quiet_of (hcall _)))
            quiet_step (first | (go_at_fn g; refine Calls.quiet_of (hcall _)))
            refine wpQuiet_nil ?_
            intro _ hw'
            obtain ⟨nq, hw''⟩ := hw'
            subst hw''
            refine name_ofS (fun w' => Kept o w0 w' ∧ Ord w' o n rest D) ⟨HK2.out.drewN _, HD2.out.drewN _⟩ ?_
            rintro wz ⟨k1, k2⟩
            have HKz := Lib.hid k1
            have HDz := Lib.hid k2
            clear k1 k2 cx cy hcall
            go_wp2
            go_roundw
            case rel => exact ⟨i, h, by omega, by omega, by omega, rfl, by go_num, HKz, HDz, HA, HNX⟩
            case measure => simp only [intOf]; omega
          · have hd3 : decide (r (D h) - r dp < 0) = false := decide_eq_false (by omega)
            have hd4 : ¬ (r (D h) - r dp < 0) := by omega
            have hd5 : (!decide (r (D h) - r dp < 0)) = true := by rw [hd3]; rfl
            have HNX := Lib.hid (SM.lo_next HS1.out HS2.out n4 (show h < m by omega) (show h < mid by omega) n5 (show ¬ (r (D h) < r (D (mid + m - 1 - h))) by rw [← HDP.out]; exact hrr))
            clear hrr
            go_wp2
            refine wp_region_quiet_lit (by kernel_rfl) (by kernel_rfl) ?_
            quiet_step (first | (go_at_fn g; refine Calls.quiet_of (hcall _)))
            quiet_step (first | (go_at_fn g; refine Calls.quiet_of (hcall _)))
            quiet_step (first | (go_at_fn g; refine Calls.quiet_of (hcall _)))
            quiet_step (first | (go_at_fn g; refine Calls.quiet_of (hcall _)))
            quiet_step (first | (go_at_fn g; refine Calls.quiet_of (hcall _)))
            quiet_step (first | (go_at_fn g; refine Calls.quiet_of (hcall _)))
            quiet_step (first | (go_at_fn g; refine Calls.quiet_of (hcall _)))
            quiet_step (first | (go_at_fn g; refine Calls.quiet_of (hcall _)))
            quiet_step (first | (go_at_fn g; refine Calls.quiet_of (hcall _)))
            quiet_step (first | (go_at_fn g; refine Calls.quiet_of (hcall _)))
            quiet_step (first | (go_at_fn g; refine Calls.quiet_of (hcall _)))
            quiet_step (first | (go_at_fn g; refine Calls.quiet_of (hcall _)))
            quiet_step (first | (go_at_fn g; refine Calls.quiet_of (hcall _)))
            quiet_step (first | (go_at_fn g; refine Calls.quiet_of (hcall _)))
            refine wpQuiet_nil ?_
            intro _ hw'
            obtain ⟨nq, hw''⟩ := hw'
            subst hw''
            refine name_ofS (fun w' => Kept o w0 w' ∧ Ord w' o n rest D) ⟨HK2.out.drewN _, HD2.out.drewN _⟩ ?_
            rintro wz ⟨k1, k2⟩
            have HKz := Lib.hid k1
            have HDz := Lib.hid k2
            clear k1 k2 cx cy hcall
            go_wp2
            go_roundw
            case rel => exact ⟨h + 1, j, by omega, by omega, hjb, by go_num, rfl, HKz, HDz, HNX, HB⟩
            case measure => simp only [intOf]; omega
        · obtain rfl : i = j := by omega
          obtain ⟨b1, b2, b3, b4, b5, b6, hcut⟩ := SM.cut ham hmb HMID.out HS1.out HS2.out HX.out HH0.out hi hjb HA.out HB.out
          have HCUT := Lib.hid hcut
          have HROT := Lib.hid (SM.Sim.rot D (a := i) (m := m) (b := mid + m - i) b2 b3)
          have HNIL := fun (h : i = m ∨ m = mid + m - i) => Lib.hid (SM.rot_nil D h b2 b3)
          have HIN1 := Lib.hid (HIN.out.sim HROT.out (by omega))
          obtain ⟨e, he⟩ : ∃ e, e = mid + m - i := ⟨_, rfl⟩
          have we : IntKind.i64.wrap ((nn : Int) - (i : Int)) = (e : Int) := by rw [IntKind.wrap_i64]; omega
          rw [← he] at b3 b4 b6 HCUT HROT HNIL HIN1
          have HHE := Lib.hid he
          clear HA HB hcut he
          by_cases hr : i < m ∧ m < e
          · have hr1 := hr.1
            have hr2 := hr.2
            have hc := rotate_any (cap := cap) (a := i) (m := m) (b := e) hr1 hr2 (by omega) hn (.func (.func g) #[] caps) D _ HD2.out
            clear hr HNIL
            go_upto_region 41 with (go_at_call 96; refine hc.mono ?_; rintro x wz ⟨rfl, k1, k2⟩; have HKz := Lib.hid (HK2.out.trans k1); have HDz := Lib.hid k2; clear k1 k2)
            clear HK2 HD2
            generalize SM.rot D i m e = E1 at *
            by_cases hs : a < i ∧ i < mid
            · have hs1 := hs.1
              have hs2 := hs.2
              clear hs
              have hc := ih a i mid E1 wz (by omega) hs1 hs2 (by omega) HKz.out HDz.out HIN1.out HCUT.out.s1 HCUT.out.s2 HCUT.out.c1
              go_upto_region 43 with (go_at_call 94; refine hc.mono ?_; rintro x wy ⟨rfl, k1, E2, k2, k3, k4⟩; have HKy := Lib.hid k1; have HE2 := Lib.hid k2; have HR2 := Lib.hid k3; have HDy := Lib.hid k4; clear k1 k2 k3 k4)
              clear HKz HDz
              have HIN2 := Lib.hid (HIN1.out.sim HE2.out (by omega))
              have HT1 : Hid (SM.Srt r E2 mid e) := Lib.hid (HCUT.out.s3.same (fun k k1 k2 => HE2.out.out k (by omega)))
              have HT2 : Hid (SM.Srt r E2 e b) := Lib.hid (HCUT.out.s4.same (fun k k1 k2 => HE2.out.out k (by omega)))
              have HT3 : Hid (SM.Crs r E2 mid e b) := Lib.hid (fun p q k1 k2 k3 k4 k5 => by
                rw [HE2.out.out p (by omega), HE2.out.out q (by omega)] at k5 ⊢
                exact HCUT.out.c2 p q k1 k2 k3 k4 k5)
              by_cases ht : mid < e ∧ e < b
              · have ht1 := ht.1
                have ht2 := ht.2
                clear ht
                have hc2 := ih mid e b E2 wy (by omega) ht1 ht2 (by omega) HKy.out HDy.out HIN2.out HT1.out HT2.out HT3.out
                go_wp2_with (go_at_call 94; refine hc2.mono ?_; rintro x wx ⟨rfl, k1, E3, k2, k3, k4⟩; have HKx := Lib.hid k1; have HE3 := Lib.hid k2; have HR3 := Lib.hid k3; have HDx := Lib.hid k4; clear k1 k2 k3 k4)
                go_end0
                have hf := SM.merged HCUT.out (by omega) (by omega) (HROT.out.mono (by omega) (by omega)) HE2.out HR2.out HE3.out HR3.out
                exact ⟨rfl, HKx.out, _, hf.1, hf.2, HDx.out⟩
              · have HR3 : Hid (SM.Srt r E2 mid b) := Lib.hid (by
                  by_cases k : mid < e
                  · exact HT1.out.sub (Nat.le_refl _) (by omega)
                  · exact HT2.out.sub (by omega) (Nat.le_refl _))
                by_cases ht1 : mid < e
                · have ht2 : ¬ (e < b) := by omega
                  have ht3 : decide (e < b) = false := decide_eq_false ht2
                  clear ht
                  go_wp2
                  go_end0
                  have hf := SM.merged HCUT.out (by omega) (by omega) (HROT.out.mono (by omega) (by omega)) HE2.out HR2.out (SM.Sim.refl _ _ _) HR3.out
                  exact ⟨rfl, HKy.out, _, hf.1, hf.2, HDy.out⟩
                · clear ht
                  have ht3 : decide (mid < e) = false := decide_eq_false ht1
                  go_wp2
                  go_end0
                  have hf := SM.merged HCUT.out (by omega) (by omega) (HROT.out.mono (by omega) (by omega)) HE2.out HR2.out (SM.Sim.refl _ _ _) HR3.out
                  exact ⟨rfl, HKy.out, _, hf.1, hf.2, HDy.out⟩
            · obtain ⟨E2, hE2⟩ : ∃ E2, E2 = E1 := ⟨_, rfl⟩
              have HE2 : Hid (SM.Sim E2 E1 a mid) := Lib.hid (by rw [hE2]; exact SM.Sim.refl _ _ _)
              have HR2 : Hid (SM.Srt r E2 a mid) := Lib.hid (by
                rw [hE2]
                by_cases k : a < i
                · exact HCUT.out.s1.sub (Nat.le_refl _) (by omega)
                · exact HCUT.out.s2.sub (by omega) (Nat.le_refl _))
              have HDy : Hid (Ord wz o n rest E2) := Lib.hid (by rw [hE2]; exact HDz.out)
              have HKy := HKz
              obtain ⟨wy, hwy⟩ : ∃ x, x = wz := ⟨_, rfl⟩
              rw [← hwy] at HKy HDy ⊢
              clear HKz HDz hE2 hwy
              by_cases hs1 : a < i
              · have hs2 : ¬ (i < mid) := by omega
                have hs3 : decide (i < mid) = false := decide_eq_false hs2
                clear hs
                go_upto_region 43 with (fail)
                have HIN2 := Lib.hid (HIN1.out.sim HE2.out (by omega))
                have HT1 : Hid (SM.Srt r E2 mid e) := Lib.hid (HCUT.out.s3.same (fun k k1 k2 => HE2.out.out k (by omega)))
                have HT2 : Hid (SM.Srt r E2 e b) := Lib.hid (HCUT.out.s4.same (fun k k1 k2 => HE2.out.out k (by omega)))
                have HT3 : Hid (SM.Crs r E2 mid e b) := Lib.hid (fun p q k1 k2 k3 k4 k5 => by
                  rw [HE2.out.out p (by omega), HE2.out.out q (by omega)] at k5 ⊢
                  exact HCUT.out.c2 p q k1 k2 k3 k4 k5)
                by_cases ht : mid < e ∧ e < b
                · have ht1 := ht.1
                  have ht2 := ht.2
                  clear ht
                  have hc2 := ih mid e b E2 wy (by omega) ht1 ht2 (by omega) HKy.out HDy.out HIN2.out HT1.out HT2.out HT3.out
                  go_wp2_with (go_at_call 94; refine hc2.mono ?_; rintro x wx ⟨rfl, k1, E3, k2, k3, k4⟩; have HKx := Lib.hid k1; have HE3 := Lib.hid k2; have HR3 := Lib.hid k3; have HDx := Lib.hid k4; clear k1 k2 k3 k4)
                  go_end0
                  have hf := SM.merged HCUT.out (by omega) (by omega) (HROT.out.mono (by omega) (by omega)) HE2.out HR2.out HE3.out HR3.out
                  exact ⟨rfl, HKx.out, _, hf.1, hf.2, HDx.out⟩
                · have HR3 : Hid (SM.Srt r E2 mid b) := Lib.hid (by
                    by_cases k : mid < e
                    · exact HT1.out.sub (Nat.le_refl _) (by omega)
                    · exact HT2.out.sub (by omega) (Nat.le_refl _))
                  by_cases ht1 : mid < e
                  · have ht2 : ¬ (e < b) := by omega
                    have ht3 : decide (e < b) = false := decide_eq_false ht2
                    clear ht
                    go_wp2
                    go_end0
                    have hf := SM.merged HCUT.out (by omega) (by omega) (HROT.out.mono (by omega) (by omega)) HE2.out HR2.out (SM.Sim.refl _ _ _) HR3.out
                    exact ⟨rfl, HKy.out, _, hf.1, hf.2, HDy.out⟩
                  · clear ht
                    have ht3 : decide (mid < e) = false := decide_eq_false ht1
                    go_wp2
                    go_end0
                    have hf := SM.merged HCUT.out (by omega) (by omega) (HROT.out.mono (by omega) (by omega)) HE2.out HR2.out (SM.Sim.refl _ _ _) HR3.out
                    exact ⟨rfl, HKy.out, _, hf.1, hf.2, HDy.out⟩
              · clear hs
                have hs3 : decide (a < i) = false := decide_eq_false hs1
                go_upto_region 43 with (fail)
                have HIN2 := Lib.hid (HIN1.out.sim HE2.out (by omega))
                have HT1 : Hid (SM.Srt r E2 mid e) := Lib.hid (HCUT.out.s3.same (fun k k1 k2 => HE2.out.out k (by omega)))
                have HT2 : Hid (SM.Srt r E2 e b) := Lib.hid (HCUT.out.s4.same (fun k k1 k2 => HE2.out.out k (by omega)))
                have HT3 : Hid (SM.Crs r E2 mid e b) := Lib.hid (fun p q k1 k2 k3 k4 k5 => by
                  rw [HE2.out.out p (by omega), HE2.out.out q (by omega)] at k5 ⊢
                  exact HCUT.out.c2 p q k1 k2 k3 k4 k5)
                by_cases ht : mid < e ∧ e < b
                · have ht1 := ht.1
                  have ht2 := ht.2
                  clear ht
                  have hc2 := ih mid e b E2 wy (by omega) ht1 ht2 (by omega) HKy.out HDy.out HIN2.out HT1.out HT2.out HT3.out
                  go_wp2_with (go_at_call 94; refine hc2.mono ?_; rintro x wx ⟨rfl, k1, E3, k2, k3, k4⟩; have HKx := Lib.hid k1; have HE3 := Lib.hid k2; have HR3 := Lib.hid k3; have HDx := Lib.hid k4; clear k1 k2 k3 k4)
                  go_end0
                  have hf := SM.merged HCUT.out (by omega) (by omega) (HROT.out.mono (by omega) (by omega)) HE2.out HR2.out HE3.out HR3.out
                  exact ⟨rfl, HKx.out, _, hf.1, hf.2, HDx.out⟩
                · have HR3 : Hid (SM.Srt r E2 mid b) := Lib.hid (by
                    by_cases k : mid < e
                    · exact HT1.out.sub (Nat.le_refl _) (by omega)
                    · exact HT2.out.sub (by omega) (Nat.le_refl _))
                  by_cases ht1 : mid < e
                  · have ht2 : ¬ (e < b) := by omega
                    have ht3 : decide (e < b) = false := decide_eq_false ht2
                    clear ht
                    go_wp2
                    go_end0
                    have hf := SM.merged HCUT.out (by omega) (by omega) (HROT.out.mono (by omega) (by omega)) HE2.out HR2.out (SM.Sim.refl _ _ _) HR3.out
                    exact ⟨rfl, HKy.out, _, hf.1, hf.2, HDy.out⟩
                  · clear ht
                    have ht3 : decide (mid < e) = false := decide_eq_false ht1
                    go_wp2
                    go_end0
                    have hf := SM.merged HCUT.out (by omega) (by omega) (HROT.out.mono (by omega) (by omega)) HE2.out HR2.out (SM.Sim.refl _ _ _) HR3.out
                    exact ⟨rfl, HKy.out, _, hf.1, hf.2, HDy.out⟩
          · have HN := HNIL (by omega)
            have HDz : Hid (Ord wr o n rest (SM.rot D i m e)) := by rw [HN.out]; exact HD2
            have HKz := HK2
            obtain ⟨wz, hwz⟩ : ∃ x, x = wr := ⟨_, rfl⟩
            rw [← hwz] at HKz HDz ⊢
            clear HN HNIL HK2 HD2 hwz
            have hr1 : i < m → ¬ (m < e) := by omega
            by_cases hi2 : i < m
            · have hr2 := hr1 hi2
              clear hr hr1
              have hr3 : decide (m < e) = false := decide_eq_false hr2
              go_upto_region 41 with (fail)
              generalize SM.rot D i m e = E1 at *
              by_cases hs : a < i ∧ i < mid
              · have hs1 := hs.1
                have hs2 := hs.2
                clear hs
                have hc := ih a i mid E1 wz (by omega) hs1 hs2 (by omega) HKz.out HDz.out HIN1.out HCUT.out.s1 HCUT.out.s2 HCUT.out.c1
                go_upto_region 43 with (go_at_call 94; refine hc.mono ?_; rintro x wy ⟨rfl, k1, E2, k2, k3, k4⟩; have HKy := Lib.hid k1; have HE2 := Lib.hid k2; have HR2 := Lib.hid k3; have HDy := Lib.hid k4; clear k1 k2 k3 k4)
                clear HKz HDz
                have HIN2 := Lib.hid (HIN1.out.sim HE2.out (by omega))
                have HT1 : Hid (SM.Srt r E2 mid e) := Lib.hid (HCUT.out.s3.same (fun k k1 k2 => HE2.out.out k (by omega)))
                have HT2 : Hid (SM.Srt r E2 e b) := Lib.hid (HCUT.out.s4.same (fun k k1 k2 => HE2.out.out k (by omega)))
                have HT3 : Hid (SM.Crs r E2 mid e b) := Lib.hid (fun p q k1 k2 k3 k4 k5 => by
                  rw [HE2.out.out p (by omega), HE2.out.out q (by omega)] at k5 ⊢
                  exact HCUT.out.c2 p q k1 k2 k3 k4 k5)
                by_cases ht : mid < e ∧ e < b
                · have ht1 := ht.1
                  have ht2 := ht.2
                  clear ht
                  have hc2 := ih mid e b E2 wy (by omega) ht1 ht2 (by omega) HKy.out HDy.out HIN2.out HT1.out HT2.out HT3.out
                  go_wp2_with (go_at_call 94; refine hc2.mono ?_; rintro x wx ⟨rfl, k1, E3, k2, k3, k4⟩; have HKx := Lib.hid k1; have HE3 := Lib.hid k2; have HR3 := Lib.hid k3; have HDx := Lib.hid k4; clear k1 k2 k3 k4)
                  go_end0
                  have hf := SM.merged HCUT.out (by omega) (by omega) (HROT.out.mono (by omega) (by omega)) HE2.out HR2.out HE3.out HR3.out
                  exact ⟨rfl, HKx.out, _, hf.1, hf.2, HDx.out⟩
                · have HR3 : Hid (SM.Srt r E2 mid b) := Lib.hid (by
                    by_cases k : mid < e
                    · exact HT1.out.sub (Nat.le_refl _) (by omega)
                    · exact HT2.out.sub (by omega) (Nat.le_refl _))
                  by_cases ht1 : mid < e
                  · have ht2 : ¬ (e < b) := by omega
                    have ht3 : decide (e < b) = false := decide_eq_false ht2
                    clear ht
                    go_wp2
                    go_end0
                    have hf := SM.merged HCUT.out (by omega) (by omega) (HROT.out.mono (by omega) (by omega)) HE2.out HR2.out (SM.Sim.refl _ _ _) HR3.out
                    exact ⟨rfl, HKy.out, _, hf.1, hf.2, HDy.out⟩
                  · clear ht
                    have ht3 : decide (mid < e) = false := decide_eq_false ht1
                    go_wp2
                    go_end0
                    have hf := SM.merged HCUT.out (by omega) (by omega) (HROT.out.mono (by omega) (by omega)) HE2.out HR2.out (SM.Sim.refl _ _ _) HR3.out
                    exact ⟨rfl, HKy.out, _, hf.1, hf.2, HDy.out⟩
              · obtain ⟨E2, hE2⟩ : ∃ E2, E2 = E1 := ⟨_, rfl⟩
                have HE2 : Hid (SM.Sim E2 E1 a mid) := Lib.hid (by rw [hE2]; exact SM.Sim.refl _ _ _)
                have HR2 : Hid (SM.Srt r E2 a mid) := Lib.hid (by
                  rw [hE2]
                  by_cases k : a < i
                  · exact HCUT.out.s1.sub (Nat.le_refl _) (by omega)
                  · exact HCUT.out.s2.sub (by omega) (Nat.le_refl _))
                have HDy : Hid (Ord wz o n rest E2) := Lib.hid (by rw [hE2]; exact HDz.out)
                have HKy := HKz
                obtain ⟨wy, hwy⟩ : ∃ x, x = wz := ⟨_, rfl⟩
                rw [← hwy] at HKy HDy ⊢
                clear HKz HDz hE2 hwy
                by_cases hs1 : a < i
                · have hs2 : ¬ (i < mid) := by omega
                  have hs3 : decide (i < mid) = false := decide_eq_false hs2
                  clear hs
                  go_upto_region 43 with (fail)
                  have HIN2 := Lib.hid (HIN1.out.sim HE2.out (by omega))
                  have HT1 : Hid (SM.Srt r E2 mid e) := Lib.hid (HCUT.out.s3.same (fun k k1 k2 => HE2.out.out k (by omega)))
                  have HT2 : Hid (SM.Srt r E2 e b) := Lib.hid (HCUT.out.s4.same (fun k k1 k2 => HE2.out.out k (by omega)))
                  have HT3 : Hid (SM.Crs r E2 mid e b) := Lib.hid (fun p q k1 k2 k3 k4 k5 => by
                    rw [HE2.out.out p (by omega), HE2.out.out q (by omega)] at k5 ⊢
                    exact HCUT.out.c2 p q k1 k2 k3 k4 k5)
                  by_cases ht : mid < e ∧ e < b
                  · have ht1 := ht.1
                    have ht2 := ht.2
                    clear ht
                    have hc2 := ih mid e b E2 wy (by omega) ht1 ht2 (by omega) HKy.out HDy.out HIN2.out HT1.out HT2.out HT3.out
                    go_wp2_with (go_at_call 94; refine hc2.mono ?_; rintro x wx ⟨rfl, k1, E3, k2, k3, k4⟩; have HKx := Lib.hid k1; have HE3 := Lib.hid k2; have HR3 := Lib.hid k3; have HDx := Lib.hid k4; clear k1 k2 k3 k4)
                    go_end0
                    have hf := SM.merged HCUT.out (by omega) (by omega) (HROT.out.mono (by omega) (by omega)) HE2.out HR2.out HE3.out HR3.out
                    exact ⟨rfl, HKx.out, _, hf.1, hf.2, HDx.out⟩
                  · have HR3 : Hid (SM.Srt r E2 mid b) := Lib.hid (by
                      by_cases k : mid < e
                      · exact HT1.out.sub (Nat.le_refl _) (by omega)
                      · exact HT2.out.sub (by omega) (Nat.le_refl _))
                    by_cases ht1 : mid < e
                    · have ht2 : ¬ (e < b) := by omega
                      have ht3 : decide (e < b) = false := decide_eq_false ht2
                      clear ht
                      go_wp2
                      go_end0
                      have hf := SM.merged HCUT.out (by omega) (by omega) (HROT.out.mono (by omega) (by omega)) HE2.out HR2.out (SM.Sim.refl _ _ _) HR3.out
                      exact ⟨rfl, HKy.out, _, hf.1, hf.2, HDy.out⟩
                    · clear ht
                      have ht3 : decide (mid < e) = false := decide_eq_false ht1
                      go_wp2
                      go_end0
                      have hf := SM.merged HCUT.out (by omega) (by omega) (HROT.out.mono (by omega) (by omega)) HE2.out HR2.out (SM.Sim.refl _ _ _) HR3.out
                      exact ⟨rfl, HKy.out, _, hf.1, hf.2, HDy.out⟩
                · clear hs
                  have hs3 : decide (a < i) = false := decide_eq_false hs1
                  go_upto_region 43 with (fail)
                  have HIN2 := Lib.hid (HIN1.out.sim HE2.out (by omega))
                  have HT1 : Hid (SM.Srt r E2 mid e) := Lib.hid (HCUT.out.s3.same (fun k k1 k2 => HE2.out.out k (by omega)))
                  have HT2 : Hid (SM.Srt r E2 e b) := Lib.hid (HCUT.out.s4.same (fun k k1 k2 => HE2.out.out k (by omega)))
                  have HT3 : Hid (SM.Crs r E2 mid e b) := Lib.hid (fun p q k1 k2 k3 k4 k5 => by
                    rw [HE2.out.out p (by omega), HE2.out.out q (by omega)] at k5 ⊢
                    exact HCUT.out.c2 p q k1 k2 k3 k4 k5)
                  by_cases ht : mid < e ∧ e < b
                  · have ht1 := ht.1
                    have ht2 := ht.2
                    clear ht
                    have hc2 := ih mid e b E2 wy (by omega) ht1 ht2 (by omega) HKy.out HDy.out HIN2.out HT1.out HT2.out HT3.out
                    go_wp2_with (go_at_call 94; refine hc2.mono ?_; rintro x wx ⟨rfl, k1, E3, k2, k3, k4⟩; have HKx := Lib.hid k1; have HE3 := Lib.hid k2; have HR3 := Lib.hid k3; have HDx := Lib.hid k4; clear k1 k2 k3 k4)
                    go_end0
                    have hf := SM.merged HCUT.out (by omega) (by omega) (HROT.out.mono (by omega) (by omega)) HE2.out HR2.out HE3.out HR3.out
                    exact ⟨rfl, HKx.out, _, hf.1, hf.2, HDx.out⟩
                  · have HR3 : Hid (SM.Srt r E2 mid b) := Lib.hid (by
                      by_cases k : mid < e
                      · exact HT1.out.sub (Nat.le_refl _) (by omega)
                      · exact HT2.out.sub (by omega) (Nat.le_refl _))
                    by_cases ht1 : mid < e
                    · have ht2 : ¬ (e < b) := by omega
                      have ht3 : decide (e < b) = false := decide_eq_false ht2
                      clear ht
                      go_wp2
                      go_end0
                      have hf := SM.merged HCUT.out (by omega) (by omega) (HROT.out.mono (by omega) (by omega)) HE2.out HR2.out (SM.Sim.refl _ _ _) HR3.out
                      exact ⟨rfl, HKy.out, _, hf.1, hf.2, HDy.out⟩
                    · clear ht
                      have ht3 : decide (mid < e) = false := decide_eq_false ht1
                      go_wp2
                      go_end0
                      have hf := SM.merged HCUT.out (by omega) (by omega) (HROT.out.mono (by omega) (by omega)) HE2.out HR2.out (SM.Sim.refl _ _ _) HR3.out
                      exact ⟨rfl, HKy.out, _, hf.1, hf.2, HDy.out⟩
            · clear hr hr1
              have hr3 : decide (i < m) = false := decide_eq_false hi2
              go_upto_region 41 with (fail)
              generalize SM.rot D i m e = E1 at *
              by_cases hs : a < i ∧ i < mid
              · have hs1 := hs.1
                have hs2 := hs.2
                clear hs
                have hc := ih a i mid E1 wz (by omega) hs1 hs2 (by omega) HKz.out HDz.out HIN1.out HCUT.out.s1 HCUT.out.s2 HCUT.out.c1
                go_upto_region 43 with (go_at_call 94; refine hc.mono ?_; rintro x wy ⟨rfl, k1, E2, k2, k3, k4⟩; have HKy := Lib.hid k1; have HE2 := Lib.hid k2; have HR2 := Lib.hid k3; have HDy := Lib.hid k4; clear k1 k2 k3 k4)
                clear HKz HDz
                have HIN2 := Lib.hid (HIN1.out.sim HE2.out (by omega))
                have HT1 : Hid (SM.Srt r E2 mid e) := Lib.hid (HCUT.out.s3.same (fun k k1 k2 => HE2.out.out k (by omega)))
                have HT2 : Hid (SM.Srt r E2 e b) := Lib.hid (HCUT.out.s4.same (fun k k1 k2 => HE2.out.out k (by omega)))
                have HT3 : Hid (SM.Crs r E2 mid e b) := Lib.hid (fun p q k1 k2 k3 k4 k5 => by
                  rw [HE2.out.out p (by omega), HE2.out.out q (by omega)] at k5 ⊢
                  exact HCUT.out.c2 p q k1 k2 k3 k4 k5)
                by_cases ht : mid < e ∧ e < b
                · have ht1 := ht.1
                  have ht2 := ht.2
                  clear ht
                  have hc2 := ih mid e b E2 wy (by omega) ht1 ht2 (by omega) HKy.out HDy.out HIN2.out HT1.out HT2.out HT3.out
                  go_wp2_with (go_at_call 94; refine hc2.mono ?_; rintro x wx ⟨rfl, k1, E3, k2, k3, k4⟩; have HKx := Lib.hid k1; have HE3 := Lib.hid k2; have HR3 := Lib.hid k3; have HDx := Lib.hid k4; clear k1 k2 k3 k4)
                  go_end0
                  have hf := SM.merged HCUT.out (by omega) (by omega) (HROT.out.mono (by omega) (by omega)) HE2.out HR2.out HE3.out HR3.out
                  exact ⟨rfl, HKx.out, _, hf.1, hf.2, HDx.out⟩
                · have HR3 : Hid (SM.Srt r E2 mid b) := Lib.hid (by
                    by_cases k : mid < e
                    · exact HT1.out.sub (Nat.le_refl _) (by omega)
                    · exact HT2.out.sub (by omega) (Nat.le_refl _))
                  by_cases ht1 : mid < e
                  · have ht2 : ¬ (e < b) := by omega
                    have ht3 : decide (e < b) = false := decide_eq_false ht2
                    clear ht
                    go_wp2
                    go_end0
                    have hf := SM.merged HCUT.out (by omega) (by omega) (HROT.out.mono (by omega) (by omega)) HE2.out HR2.out (SM.Sim.refl _ _ _) HR3.out
                    exact ⟨rfl, HKy.out, _, hf.1, hf.2, HDy.out⟩
                  · clear ht
                    have ht3 : decide (mid < e) = false := decide_eq_false ht1
                    go_wp2
                    go_end0
                    have hf := SM.merged HCUT.out (by omega) (by omega) (HROT.out.mono (by omega) (by omega)) HE2.out HR2.out (SM.Sim.refl _ _ _) HR3.out
                    exact ⟨rfl, HKy.out, _, hf.1, hf.2, HDy.out⟩
              · obtain ⟨E2, hE2⟩ : ∃ E2, E2 = E1 := ⟨_, rfl⟩
                have HE2 : Hid (SM.Sim E2 E1 a mid) := Lib.hid (by rw [hE2]; exact SM.Sim.refl _ _ _)
                have HR2 : Hid (SM.Srt r E2 a mid) := Lib.hid (by
                  rw [hE2]
                  by_cases k : a < i
                  · exact HCUT.out.s1.sub (Nat.le_refl _) (by omega)
                  · exact HCUT.out.s2.sub (by omega) (Nat.le_refl _))
                have HDy : Hid (Ord wz o n rest E2) := Lib.hid (by rw [hE2]; exact HDz.out)
                have HKy := HKz
                obtain ⟨wy, hwy⟩ : ∃ x, x = wz := ⟨_, rfl⟩
                rw [← hwy] at HKy HDy ⊢
                clear HKz HDz hE2 hwy
                by_cases hs1 : a < i
                · have hs2 : ¬ (i < mid) := by omega
                  have hs3 : decide (i < mid) = false := decide_eq_false hs2
                  clear hs
                  go_upto_region 43 with (fail)
                  have HIN2 := Lib.hid (HIN1.out.sim HE2.out (by omega))
                  have HT1 : Hid (SM.Srt r E2 mid e) := Lib.hid (HCUT.out.s3.same (fun k k1 k2 => HE2.out.out k (by omega)))
                  have HT2 : Hid (SM.Srt r E2 e b) := Lib.hid (HCUT.out.s4.same (fun k k1 k2 => HE2.out.out k (by omega)))
                  have HT3 : Hid (SM.Crs r E2 mid e b) := Lib.hid (fun p q k1 k2 k3 k4 k5 => by
                    rw [HE2.out.out p (by omega), HE2.out.out q (by omega)] at k5 ⊢
                    exact HCUT.out.c2 p q k1 k2 k3 k4 k5)
                  by_cases ht : mid < e ∧ e < b
                  · have ht1 := ht.1
                    have ht2 := ht.2
                    clear ht
                    have hc2 := ih mid e b E2 wy (by omega) ht1 ht2 (by omega) HKy.out HDy.out HIN2.out HT1.out HT2.out HT3.out
                    go_wp2_with (go_at_call 94; refine hc2.mono ?_; rintro x wx ⟨rfl, k1, E3, k2, k3, k4⟩; have HKx := Lib.hid k1; have HE3 := Lib.hid k2; have HR3 := Lib.hid k3; have HDx := Lib.hid k4; clear k1 k2 k3 k4)
                    go_end0
                    have hf := SM.merged HCUT.out (by omega) (by omega) (HROT.out.mono (by omega) (by omega)) HE2.out HR2.out HE3.out HR3.out
                    exact ⟨rfl, HKx.out, _, hf.1, hf.2, HDx.out⟩
                  · have HR3 : Hid (SM.Srt r E2 mid b) := Lib.hid (by
                      by_cases k : mid < e
                      · exact HT1.out.sub (Nat.le_refl _) (by omega)
                      · exact HT2.out.sub (by omega) (Nat.le_refl _))
                    by_cases ht1 : mid < e
                    · have ht2 : ¬ (e < b) := by omega
                      have ht3 : decide (e < b) = false := decide_eq_false ht2
                      clear ht
                      go_wp2
                      go_end0
                      have hf := SM.merged HCUT.out (by omega) (by omega) (HROT.out.mono (by omega) (by omega)) HE2.out HR2.out (SM.Sim.refl _ _ _) HR3.out
                      exact ⟨rfl, HKy.out, _, hf.1, hf.2, HDy.out⟩
                    · clear ht
                      have ht3 : decide (mid < e) = false := decide_eq_false ht1
                      go_wp2
                      go_end0
                      have hf := SM.merged HCUT.out (by omega) (by omega) (HROT.out.mono (by omega) (by omega)) HE2.out HR2.out (SM.Sim.refl _ _ _) HR3.out
                      exact ⟨rfl, HKy.out, _, hf.1, hf.2, HDy.out⟩
                · clear hs
                  have hs3 : decide (a < i) = false := decide_eq_false hs1
                  go_upto_region 43 with (fail)
                  have HIN2 := Lib.hid (HIN1.out.sim HE2.out (by omega))
                  have HT1 : Hid (SM.Srt r E2 mid e) := Lib.hid (HCUT.out.s3.same (fun k k1 k2 => HE2.out.out k (by omega)))
                  have HT2 : Hid (SM.Srt r E2 e b) := Lib.hid (HCUT.out.s4.same (fun k k1 k2 => HE2.out.out k (by omega)))
                  have HT3 : Hid (SM.Crs r E2 mid e b) := Lib.hid (fun p q k1 k2 k3 k4 k5 => by
                    rw [HE2.out.out p (by omega), HE2.out.out q (by omega)] at k5 ⊢
                    exact HCUT.out.c2 p q k1 k2 k3 k4 k5)
                  by_cases ht : mid < e ∧ e < b
                  · have ht1 := ht.1
                    have ht2 := ht.2
                    clear ht
                    have hc2 := ih mid e b E2 wy (by omega) ht1 ht2 (by omega) HKy.out HDy.out HIN2.out HT1.out HT2.out HT3.out
                    go_wp2_with (go_at_call 94; refine hc2.mono ?_; rintro x wx ⟨rfl, k1, E3, k2, k3, k4⟩; have HKx := Lib.hid k1; have HE3 := Lib.hid k2; have HR3 := Lib.hid k3; have HDx := Lib.hid k4; clear k1 k2 k3 k4)
                    go_end0
                    have hf := SM.merged HCUT.out (by omega) (by omega) (HROT.out.mono (by omega) (by omega)) HE2.out HR2.out HE3.out HR3.out
                    exact ⟨rfl, HKx.out, _, hf.1, hf.2, HDx.out⟩
                  · have HR3 : Hid (SM.Srt r E2 mid b) := Lib.hid (by
                      by_cases k : mid < e
                      · exact HT1.out.sub (Nat.le_refl _) (by omega)
                      · exact HT2.out.sub (by omega) (Nat.le_refl _))
                    by_cases ht1 : mid < e
                    · have ht2 : ¬ (e < b) := by omega
                      have ht3 : decide (e < b) = false := decide_eq_false ht2
                      clear ht
                      go_wp2
                      go_end0
                      have hf := SM.merged HCUT.out (by omega) (by omega) (HROT.out.mono (by omega) (by omega)) HE2.out HR2.out (SM.Sim.refl _ _ _) HR3.out
                      exact ⟨rfl, HKy.out, _, hf.1, hf.2, HDy.out⟩
                    · clear ht
                      have ht3 : decide (mid < e) = false := decide_eq_false ht1
                      go_wp2
                      go_end0
                      have hf := SM.merged HCUT.out (by omega) (by omega) (HROT.out.mono (by omega) (by omega)) HE2.out HR2.out (SM.Sim.refl _ _ _) HR3.out
                      exact ⟨rfl, HKy.out, _, hf.1, hf.2, HDy.out⟩
    · obtain ⟨s0, hs0⟩ : ∃ s0, s0 = a := ⟨_, rfl⟩
      obtain ⟨r0, hr0⟩ : ∃ r0, r0 = m := ⟨_, rfl⟩
      have h0 : (mid < m ∧ s0 = mid + m - b ∧ r0 = mid) ∨ (m ≤ mid ∧ s0 = a ∧ r0 = m) := .inr ⟨by omega, hs0, hr0⟩
      have HS0 := Lib.hid hs0
      have HR0 := Lib.hid hr0
      have HH0 := Lib.hid h0
      have n1 : s0 ≤ r0 := by omega
      have n2 : r0 ≤ m := by omega
      have n3 : r0 ≤ mid := by omega
      have n4 : a ≤ s0 := by omega
      have n5 : mid + m ≤ s0 + b := by omega
      clear hs0 hr0 h0
      go_wp2
      go_loopw [20, 21, 23] (fun u v x wr => ∃ i j : Nat, s0 ≤ i ∧ i ≤ j ∧ j ≤ r0 ∧ u = .int .i64 (i : Int) ∧ v = .int .i64 (j : Int) ∧ Hid (Kept o w0 wr) ∧ Hid (Ord wr o n rest D) ∧ Hid (∀ c, s0 ≤ c → c < i → r (D c) ≥ r (D (mid + m - 1 - c))) ∧ Hid (∀ c, j ≤ c → c < r0 → r (D (mid + m - 1 - c)) > r (D c))) (fun u v _ _ => (intOf v).toNat - (intOf u).toNat)
      case atStart => exact ⟨s0, r0, by omega, by omega, by omega, by rw [HS0.out], by rw [HR0.out], HK, HO, Lib.hid (fun k h1 h2 => by omega), Lib.hid (fun k h1 h2 => by omega)⟩
      case round =>
        obtain ⟨i, j, hi, hij, hjb, rfl, rfl, HK2, HD2, HA, HB⟩ := hrel
        by_cases hlt : i < j
        · obtain ⟨h, hh⟩ : ∃ h, h = (i + j) / 2 := ⟨_, rfl⟩
          have wh : IntKind.i64.wrap ((i : Int) + (j : Int)) = (i : Int) + (j : Int) := by rw [IntKind.wrap_i64]; omega
          have wh2 : IntKind.u64.wrap ((i : Int) + (j : Int)) = (i : Int) + (j : Int) := by simp [IntKind.wrap, IntKind.bits, IntKind.signed]; omega
          have wh3 : ((i : Int) + (j : Int)) / 2 = (h : Int) := by omega
          have wh4 : IntKind.i64.wrap (h : Int) = (h : Int) := by rw [IntKind.wrap_i64]; omega
          have wh5 : IntKind.i64.wrap ((h : Int) + 1) = (h : Int) + 1 := by rw [IntKind.wrap_i64]; omega
          have hi0 : i ≤ h := by omega
          have hj0 : h < j := by omega
          clear hh
          obtain ⟨pp, hpp⟩ : ∃ d, d = pq - h := ⟨_, rfl⟩
          have hpm : mid + m - 1 - h = pp := by omega
          have hz2 : (pp : Int) < (n : Int) := by omega
          have wz : IntKind.i64.wrap ((pq : Int) - (h : Int)) = (pp : Int) := by rw [IntKind.wrap_i64]; omega
          have cx := HD2.out.cell (i := pp) (by omega)
          have cy := HD2.out.cell (i := h) (by omega)
          have hcall := fun q => HC.out _ (HK2.out.drewN q) (D pp) (D h) (HIN.out _ (by omega)) (HIN.out h (by omega))
          obtain ⟨dp, hdp⟩ : ∃ d, d = D pp := ⟨_, rfl⟩
          rw [← hdp] at cx hcall
          have HDP : Hid (dp = D (mid + m - 1 - h)) := Lib.hid (by rw [hpm]; exact hdp)
          clear hdp hpp hpm
          have p1 : (0 : Int) ≤ (h : Int) := by omega
          have p2 : (h : Int) < (n : Int) := by omega
          by_cases hrr : r (D h) < r dp
          · have hd3 : decide (r (D h) - r dp < 0) = true := decide_eq_true (by omega)
            have hd4 : r (D h) - r dp < 0 := by omega
            have hd5 : (!decide (r (D h) - r dp < 0)) = false := by rw [hd3]; rfl
            have HNX := Lib.hid (SM.hi_next HS1.out HS2.out (show a ≤ h by omega) n2 n3 (show mid + m ≤ h + b by omega) (show r (D h) < r (D (mid + m - 1 - h)) by rw [← HDP.out]; exact hrr))
            clear hrr
            go_wp2
            refine wp_region_quiet_lit (by kernel_rfl) (by kernel_rfl) ?_
            quiet_step (first | (go_at_fn g; refine Calls.quiet_of (hcall _)))
            quiet_step (first | (go_at_fn g; refine Calls.quiet_of (hcall _)))
            quiet_step (first | (go_at_fn g; refine Calls.quiet_of (hcall _)))
            quiet_step (first | (go_at_fn g; refine Calls.quiet_of (hcall _)))
            quiet_step (first | (go_at_fn g; refine Calls.quiet_of (hcall _)))
            quiet_step (first | (go_at_fn g; refine Calls.quiet_of (hcall _)))
            quiet_step (first | (go_at_fn g; refine Calls.quiet_of (hcall _)))
            quiet_step (first | (go_at_fn g; refine Calls.quiet_of (hcall _)))
            quiet_step (first | (go_at_fn g; refine Calls.quiet_of (hcall _)))
            quiet_step (first | (go_at_fn g; refine Calls.quiet_of (hcall _)))
            quiet_step (first | (go_at_fn g; refine Calls.quiet_of (hcall _)))
            quiet_step (first | (go_at_fn g; refine Calls.quiet_of (hcall _)))
            quiet_step (first | (go_at_fn g; refine Calls.quiet_of (hcall _)))
            quiet_step (first | (go_at_fn g; refine Calls.quiet_of (hcall _)))
            refine wpQuiet_nil ?_
            intro _ hw'
            obtain ⟨nq, hw''⟩ := hw'
            subst hw''
            refine name_ofS (fun w' => Kept o w0 w' ∧ Ord w' o n rest D) ⟨HK2.out.drewN _, HD2.out.drewN _⟩ ?_
            rintro wz ⟨k1, k2⟩
            have HKz := Lib.hid k1
            have HDz := Lib.hid k2
            clear k1 k2 cx cy hcall
            go_wp2
            go_roundw
            case rel => exact ⟨i, h, by omega, by omega, by omega, rfl, by go_num, HKz, HDz, HA, HNX⟩
            case measure => simp only [intOf]; omega
          · have hd3 : decide (r (D h) - r dp < 0) = false := decide_eq_false (by omega)
            have hd4 : ¬ (r (D h) - r dp < 0) := by omega
            have hd5 : (!decide (r (D h) - r dp < 0)) = true := by rw [hd3]; rfl
            have HNX := Lib.hid (SM.lo_next HS1.out HS2.out n4 (show h < m by omega) (show h < mid by omega) n5 (show ¬ (r (D h) < r (D (mid + m - 1 - h))) by rw [← HDP.out]; exact hrr))
            clear hrr
            go_wp2
            refine wp_region_quiet_lit (by kernel_rfl) (by kernel_rfl) ?_
            quiet_step (first | (go_at_fn g; refine Calls.quiet_of (hcall _)))
            quiet_step (first | (go_at_fn g; refine Calls.quiet_of (hcall _)))
            quiet_step (first | (go_at_fn g; refine Calls.quiet_of (hcall _)))
            quiet_step (first | (go_at_fn g; refine Calls.quiet_of (hcall _)))
            quiet_step (first | (go_at_fn g; refine Calls.quiet_of (hcall _)))
            quiet_step (first | (go_at_fn g; refine Calls.quiet_of (hcall _)))
            quiet_step (first | (go_at_fn g; refine Calls.quiet_of (hcall _)))
            quiet_step (first | (go_at_fn g; refine Calls.quiet_of (hcall _)))
            quiet_step (first | (go_at_fn g; refine Calls.quiet_of (hcall _)))
            quiet_step (first | (go_at_fn g; refine Calls.quiet_of (hcall _)))
            quiet_step (first | (go_at_fn g; refine Calls.quiet_of (hcall _)))
            quiet_step (first | (go_at_fn g; refine Calls.quiet_of (hcall _)))
            quiet_step (first | (go_at_fn g; refine Calls.quiet_of (hcall _)))
            quiet_step (first | (go_at_fn g; refine Calls.quiet_of (hcall _)))
            refine wpQuiet_nil ?_
            intro _ hw'
            obtain ⟨nq, hw''⟩ := hw'
            subst hw''
            refine name_ofS (fun w' => Kept o w0 w' ∧ Ord w' o n rest D) ⟨HK2.out.drewN _, HD2.out.drewN _⟩ ?_
            rintro wz ⟨k1, k2⟩
            have HKz := Lib.hid k1
            have HDz := Lib.hid k2
            clear k1 k2 cx cy hcall
            go_wp2
            go_roundw
            case rel => exact ⟨h + 1, j, by omega, by omega, hjb, by go_num, rfl, HKz, HDz, HNX, HB⟩
            case measure => simp only [intOf]; omega
        · obtain rfl : i = j := by omega
          obtain ⟨b1, b2, b3, b4, b5, b6, hcut⟩ := SM.cut ham hmb HMID.out HS1.out HS2.out HX.out HH0.out hi hjb HA.out HB.out
          have HCUT := Lib.hid hcut
          have HROT := Lib.hid (SM.Sim.rot D (a := i) (m := m) (b := mid + m - i) b2 b3)
          have HNIL := fun (h : i = m ∨ m = mid + m - i) => Lib.hid (SM.rot_nil D h b2 b3)
          have HIN1 := Lib.hid (HIN.out.sim HROT.out (by omega))
          obtain ⟨e, he⟩ : ∃ e, e = mid + m - i := ⟨_, rfl⟩
          have we : IntKind.i64.wrap ((nn : Int) - (i : Int)) = (e : Int) := by rw [IntKind.wrap_i64]; omega
          rw [← he] at b3 b4 b6 HCUT HROT HNIL HIN1
          have HHE := Lib.hid he
          clear HA HB hcut he
          by_cases hr : i < m ∧ m < e
          · have hr1 := hr.1
            have hr2 := hr.2
            have hc := rotate_any (cap := cap) (a := i) (m := m) (b := e) hr1 hr2 (by omega) hn (.func (.func g) #[] caps) D _ HD2.out
            clear hr HNIL
            go_upto_region 41 with (go_at_call 96; refine hc.mono ?_; rintro x wz ⟨rfl, k1, k2⟩; have HKz := Lib.hid (HK2.out.trans k1); have HDz := Lib.hid k2; clear k1 k2)
            clear HK2 HD2
            generalize SM.rot D i m e = E1 at *
            by_cases hs : a < i ∧ i < mid
            · have hs1 := hs.1
              have hs2 := hs.2
              clear hs
              have hc := ih a i mid E1 wz (by omega) hs1 hs2 (by omega) HKz.out HDz.out HIN1.out HCUT.out.s1 HCUT.out.s2 HCUT.out.c1
              go_upto_region 43 with (go_at_call 94; refine hc.mono ?_; rintro x wy ⟨rfl, k1, E2, k2, k3, k4⟩; have HKy := Lib.hid k1; have HE2 := Lib.hid k2; have HR2 := Lib.hid k3; have HDy := Lib.hid k4; clear k1 k2 k3 k4)
              clear HKz HDz
              have HIN2 := Lib.hid (HIN1.out.sim HE2.out (by omega))
              have HT1 : Hid (SM.Srt r E2 mid e) := Lib.hid (HCUT.out.s3.same (fun k k1 k2 => HE2.out.out k (by omega)))
              have HT2 : Hid (SM.Srt r E2 e b) := Lib.hid (HCUT.out.s4.same (fun k k1 k2 => HE2.out.out k (by omega)))
              have HT3 : Hid (SM.Crs r E2 mid e b) := Lib.hid (fun p q k1 k2 k3 k4 k5 => by
                rw [HE2.out.out p (by omega), HE2.out.out q (by omega)] at k5 ⊢
                exact HCUT.out.c2 p q k1 k2 k3 k4 k5)
              by_cases ht : mid < e ∧ e < b
              · have ht1 := ht.1
                have ht2 := ht.2
                clear ht
                have hc2 := ih mid e b E2 wy (by omega) ht1 ht2 (by omega) HKy.out HDy.out HIN2.out HT1.out HT2.out HT3.out
                go_wp2_with (go_at_call 94; refine hc2.mono ?_; rintro x wx ⟨rfl, k1, E3, k2, k3, k4⟩; have HKx := Lib.hid k1; have HE3 := Lib.hid k2; have HR3 := Lib.hid k3; have HDx := Lib.hid k4; clear k1 k2 k3 k4)
                go_end0
                have hf := SM.merged HCUT.out (by omega) (by omega) (HROT.out.mono (by omega) (by omega)) HE2.out HR2.out HE3.out HR3.out
                exact ⟨rfl, HKx.out, _, hf.1, hf.2, HDx.out⟩
              · have HR3 : Hid (SM.Srt r E2 mid b) := Lib.hid (by
                  by_cases k : mid < e
                  · exact HT1.out.sub (Nat.le_refl _) (by omega)
                  · exact HT2.out.sub (by omega) (Nat.le_refl _))
                by_cases ht1 : mid < e
                · have ht2 : ¬ (e < b) := by omega
                  have ht3 : decide (e < b) = false := decide_eq_false ht2
                  clear ht
                  go_wp2
                  go_end0
                  have hf := SM.merged HCUT.out (by omega) (by omega) (HROT.out.mono (by omega) (by omega)) HE2.out HR2.out (SM.Sim.refl _ _ _) HR3.out
                  exact ⟨rfl, HKy.out, _, hf.1, hf.2, HDy.out⟩
                · clear ht
                  have ht3 : decide (mid < e) = false := decide_eq_false ht1
                  go_wp2
                  go_end0
                  have hf := SM.merged HCUT.out (by omega) (by omega) (HROT.out.mono (by omega) (by omega)) HE2.out HR2.out (SM.Sim.refl _ _ _) HR3.out
                  exact ⟨rfl, HKy.out, _, hf.1, hf.2, HDy.out⟩
            · obtain ⟨E2, hE2⟩ : ∃ E2, E2 = E1 := ⟨_, rfl⟩
              have HE2 : Hid (SM.Sim E2 E1 a mid) := Lib.hid (by rw [hE2]; exact SM.Sim.refl _ _ _)
              have HR2 : Hid (SM.Srt r E2 a mid) := Lib.hid (by
                rw [hE2]
                by_cases k : a < i
                · exact HCUT.out.s1.sub (Nat.le_refl _) (by omega)
                · exact HCUT.out.s2.sub (by omega) (Nat.le_refl _))
              have HDy : Hid (Ord wz o n rest E2) := Lib.hid (by rw [hE2]; exact HDz.out)
              have HKy := HKz
              obtain ⟨wy, hwy⟩ : ∃ x, x = wz := ⟨_, rfl⟩
              rw [← hwy] at HKy HDy ⊢
              clear HKz HDz hE2 hwy
              by_cases hs1 : a < i
              · have hs2 : ¬ (i < mid) := by omega
                have hs3 : decide (i < mid) = false := decide_eq_false hs2
                clear hs
                go_upto_region 43 with (fail)
                have HIN2 := Lib.hid (HIN1.out.sim HE2.out (by omega))
                have HT1 : Hid (SM.Srt r E2 mid e) := Lib.hid (HCUT.out.s3.same (fun k k1 k2 => HE2.out.out k (by omega)))
                have HT2 : Hid (SM.Srt r E2 e b) := Lib.hid (HCUT.out.s4.same (fun k k1 k2 => HE2.out.out k (by omega)))
                have HT3 : Hid (SM.Crs r E2 mid e b) := Lib.hid (fun p q k1 k2 k3 k4 k5 => by
                  rw [HE2.out.out p (by omega), HE2.out.out q (by omega)] at k5 ⊢
                  exact HCUT.out.c2 p q k1 k2 k3 k4 k5)
                by_cases ht : mid < e ∧ e < b
                · have ht1 := ht.1
                  have ht2 := ht.2
                  clear ht
                  have hc2 := ih mid e b E2 wy (by omega) ht1 ht2 (by omega) HKy.out HDy.out HIN2.out HT1.out HT2.out HT3.out
                  go_wp2_with (go_at_call 94; refine hc2.mono ?_; rintro x wx ⟨rfl, k1, E3, k2, k3, k4⟩; have HKx := Lib.hid k1; have HE3 := Lib.hid k2; have HR3 := Lib.hid k3; have HDx := Lib.hid k4; clear k1 k2 k3 k4)
                  go_end0
                  have hf := SM.merged HCUT.out (by omega) (by omega) (HROT.out.mono (by omega) (by omega)) HE2.out HR2.out HE3.out HR3.out
                  exact ⟨rfl, HKx.out, _, hf.1, hf.2, HDx.out⟩
                · have HR3 : Hid (SM.Srt r E2 mid b) := Lib.hid (by
                    by_cases k : mid < e
                    · exact HT1.out.sub (Nat.le_refl _) (by omega)
                    · exact HT2.out.sub (by omega) (Nat.le_refl _))
                  by_cases ht1 : mid < e
                  · have ht2 : ¬ (e < b) := by omega
                    have ht3 : decide (e < b) = false := decide_eq_false ht2
                    clear ht
                    go_wp2
                    go_end0
                    have hf := SM.merged HCUT.out (by omega) (by omega) (HROT.out.mono (by omega) (by omega)) HE2.out HR2.out (SM.Sim.refl _ _ _) HR3.out
                    exact ⟨rfl, HKy.out, _, hf.1, hf.2, HDy.out⟩
                  · clear ht
                    have ht3 : decide (mid < e) = false := decide_eq_false ht1
                    go_wp2
                    go_end0
                    have hf := SM.merged HCUT.out (by omega) (by omega) (HROT.out.mono (by omega) (by omega)) HE2.out HR2.out (SM.Sim.refl _ _ _) HR3.out
                    exact ⟨rfl, HKy.out, _, hf.1, hf.2, HDy.out⟩
              · clear hs
                have hs3 : decide (a < i) = false := decide_eq_false hs1
                go_upto_region 43 with (fail)
                have HIN2 := Lib.hid (HIN1.out.sim HE2.out (by omega))
                have HT1 : Hid (SM.Srt r E2 mid e) := Lib.hid (HCUT.out.s3.same (fun k k1 k2 => HE2.out.out k (by omega)))
                have HT2 : Hid (SM.Srt r E2 e b) := Lib.hid (HCUT.out.s4.same (fun k k1 k2 => HE2.out.out k (by omega)))
                have HT3 : Hid (SM.Crs r E2 mid e b) := Lib.hid (fun p q k1 k2 k3 k4 k5 => by
                  rw [HE2.out.out p (by omega), HE2.out.out q (by omega)] at k5 ⊢
                  exact HCUT.out.c2 p q k1 k2 k3 k4 k5)
                by_cases ht : mid < e ∧ e < b
                · have ht1 := ht.1
                  have ht2 := ht.2
                  clear ht
                  have hc2 := ih mid e b E2 wy (by omega) ht1 ht2 (by omega) HKy.out HDy.out HIN2.out HT1.out HT2.out HT3.out
                  go_wp2_with (go_at_call 94; refine hc2.mono ?_; rintro x wx ⟨rfl, k1, E3, k2, k3, k4⟩; have HKx := Lib.hid k1; have HE3 := Lib.hid k2; have HR3 := Lib.hid k3; have HDx := Lib.hid k4; clear k1 k2 k3 k4)
                  go_end0
                  have hf := SM.merged HCUT.out (by omega) (by omega) (HROT.out.mono (by omega) (by omega)) HE2.out HR2.out HE3.out HR3.out
                  exact ⟨rfl, HKx.out, _, hf.1, hf.2, HDx.out⟩
                · have HR3 : Hid (SM.Srt r E2 mid b) := Lib.hid (by
                    by_cases k : mid < e
                    · exact HT1.out.sub (Nat.le_refl _) (by omega)
                    · exact HT2.out.sub (by omega) (Nat.le_refl _))
                  by_cases ht1 : mid < e
                  · have ht2 : ¬ (e < b) := by omega
                    have ht3 : decide (e < b) = false := decide_eq_false ht2
                    clear ht
                    go_wp2
                    go_end0
                    have hf := SM.merged HCUT.out (by omega) (by omega) (HROT.out.mono (by omega) (by omega)) HE2.out HR2.out (SM.Sim.refl _ _ _) HR3.out
                    exact ⟨rfl, HKy.out, _, hf.1, hf.2, HDy.out⟩
                  · clear ht
                    have ht3 : decide (mid < e) = false := decide_eq_false ht1
                    go_wp2
                    go_end0
                    have hf := SM.merged HCUT.out (by omega) (by omega) (HROT.out.mono (by omega) (by omega)) HE2.out HR2.out (SM.Sim.refl _ _ _) HR3.out
                    exact ⟨rfl, HKy.out, _, hf.1, hf.2, HDy.out⟩
          · have HN := HNIL (by omega)
            have HDz : Hid (Ord wr o n rest (SM.rot D i m e)) := by rw [HN.out]; exact HD2
            have HKz := HK2
            obtain ⟨wz, hwz⟩ : ∃ x, x = wr := ⟨_, rfl⟩
            rw [← hwz] at HKz HDz ⊢
            clear HN HNIL HK2 HD2 hwz
            have hr1 : i < m → ¬ (m < e) := by omega
            by_cases hi2 : i < m
            · have hr2 := hr1 hi2
              clear hr hr1
              have hr3 : decide (m < e) = false := decide_eq_false hr2
              go_upto_region 41 with (fail)
              generalize SM.rot D i m e = E1 at *
              by_cases hs : a < i ∧ i < mid
              · have hs1 := hs.1
                have hs2 := hs.2
                clear hs
                have hc := ih a i mid E1 wz (by omega) hs1 hs2 (by omega) HKz.out HDz.out HIN1.out HCUT.out.s1 HCUT.out.s2 HCUT.out.c1
                go_upto_region 43 with (go_at_call 94; refine hc.mono ?_; rintro x wy ⟨rfl, k1, E2, k2, k3, k4⟩; have HKy := Lib.hid k1; have HE2 := Lib.hid k2; have HR2 := Lib.hid k3; have HDy := Lib.hid k4; clear k1 k2 k3 k4)
                clear HKz HDz
                have HIN2 := Lib.hid (HIN1.out.sim HE2.out (by omega))
                have HT1 : Hid (SM.Srt r E2 mid e) := Lib.hid (HCUT.out.s3.same (fun k k1 k2 => HE2.out.out k (by omega)))
                have HT2 : Hid (SM.Srt r E2 e b) := Lib.hid (HCUT.out.s4.same (fun k k1 k2 => HE2.out.out k (by omega)))
                have HT3 : Hid (SM.Crs r E2 mid e b) := Lib.hid (fun p q k1 k2 k3 k4 k5 => by
                  rw [HE2.out.out p (by omega), HE2.out.out q (by omega)] at k5 ⊢
                  exact HCUT.out.c2 p q k1 k2 k3 k4 k5)
                by_cases ht : mid < e ∧ e < b
                · have ht1 := ht.1
                  have ht2 := ht.2
                  clear ht
                  have hc2 := ih mid e b E2 wy (by omega) ht1 ht2 (by omega) HKy.out HDy.out HIN2.out HT1.out HT2.out HT3.out
                  go_wp2_with (go_at_call 94; refine hc2.mono ?_; rintro x wx ⟨rfl, k1, E3, k2, k3, k4⟩; have HKx := Lib.hid k1; have HE3 := Lib.hid k2; have HR3 := Lib.hid k3; have HDx := Lib.hid k4; clear k1 k2 k3 k4)
                  go_end0
                  have hf := SM.merged HCUT.out (by omega) (by omega) (HROT.out.mono (by omega) (by omega)) HE2.out HR2.out HE3.out HR3.out
                  exact ⟨rfl, HKx.out, _, hf.1, hf.2, HDx.out⟩
                · have HR3 : Hid (SM.Srt r E2 mid b) := Lib.hid (by
                    by_cases k : mid < e
                    · exact HT1.out.sub (Nat.le_refl _) (by omega)
                    · exact HT2.out.sub (by omega) (Nat.le_refl _))
                  by_cases ht1 : mid < e
                  · have ht2 : ¬ (e < b) := by omega
                    have ht3 : decide (e < b) = false := decide_eq_false ht2
                    clear ht
                    go_wp2
                    go_end0
                    have hf := SM.merged HCUT.out (by omega) (by omega) (HROT.out.mono (by omega) (by omega)) HE2.out HR2.out (SM.Sim.refl _ _ _) HR3.out
                    exact ⟨rfl, HKy.out, _, hf.1, hf.2, HDy.out⟩
                  · clear ht
                    have ht3 : decide (mid < e) = false := decide_eq_false ht1
                    go_wp2
                    go_end0
                    have hf := SM.merged HCUT.out (by omega) (by omega) (HROT.out.mono (by omega) (by omega)) HE2.out HR2.out (SM.Sim.refl _ _ _) HR3.out
                    exact ⟨rfl, HKy.out, _, hf.1, hf.2, HDy.out⟩
              · obtain ⟨E2, hE2⟩ : ∃ E2, E2 = E1 := ⟨_, rfl⟩
                have HE2 : Hid (SM.Sim E2 E1 a mid) := Lib.hid (by rw [hE2]; exact SM.Sim.refl _ _ _)
                have HR2 : Hid (SM.Srt r E2 a mid) := Lib.hid (by
                  rw [hE2]
                  by_cases k : a < i
                  · exact HCUT.out.s1.sub (Nat.le_refl _) (by omega)
                  · exact HCUT.out.s2.sub (by omega) (Nat.le_refl _))
                have HDy : Hid (Ord wz o n rest E2) := Lib.hid (by rw [hE2]; exact HDz.out)
                have HKy := HKz
                obtain ⟨wy, hwy⟩ : ∃ x, x = wz := ⟨_, rfl⟩
                rw [← hwy] at HKy HDy ⊢
                clear HKz HDz hE2 hwy
                by_cases hs1 : a < i
                · have hs2 : ¬ (i < mid) := by omega
                  have hs3 : decide (i < mid) = false := decide_eq_false hs2
                  clear hs
                  go_upto_region 43 with (fail)
                  have HIN2 := Lib.hid (HIN1.out.sim HE2.out (by omega))
                  have HT1 : Hid (SM.Srt r E2 mid e) := Lib.hid (HCUT.out.s3.same (fun k k1 k2 => HE2.out.out k (by omega)))
                  have HT2 : Hid (SM.Srt r E2 e b) := Lib.hid (HCUT.out.s4.same (fun k k1 k2 => HE2.out.out k (by omega)))
                  have HT3 : Hid (SM.Crs r E2 mid e b) := Lib.hid (fun p q k1 k2 k3 k4 k5 => by
                    rw [HE2.out.out p (by omega), HE2.out.out q (by omega)] at k5 ⊢
                    exact HCUT.out.c2 p q k1 k2 k3 k4 k5)
                  by_cases ht : mid < e ∧ e < b
                  · have ht1 := ht.1
                    have ht2 := ht.2
                    clear ht
                    have hc2 := ih mid e b E2 wy (by omega) ht1 ht2 (by omega) HKy.out HDy.out HIN2.out HT1.out HT2.out HT3.out
                    go_wp2_with (go_at_call 94; refine hc2.mono ?_; rintro x wx ⟨rfl, k1, E3, k2, k3, k4⟩; have HKx := Lib.hid k1; have HE3 := Lib.hid k2; have HR3 := Lib.hid k3; have HDx := Lib.hid k4; clear k1 k2 k3 k4)
                    go_end0
                    have hf := SM.merged HCUT.out (by omega) (by omega) (HROT.out.mono (by omega) (by omega)) HE2.out HR2.out HE3.out HR3.out
                    exact ⟨rfl, HKx.out, _, hf.1, hf.2, HDx.out⟩
                  · have HR3 : Hid (SM.Srt r E2 mid b) := Lib.hid (by
                      by_cases k : mid < e
                      · exact HT1.out.sub (Nat.le_refl _) (by omega)
                      · exact HT2.out.sub (by omega) (Nat.le_refl _))
                    by_cases ht1 : mid < e
                    · have ht2 : ¬ (e < b) := by omega
                      have ht3 : decide (e < b) = false := decide_eq_false ht2
                      clear ht
                      go_wp2
                      go_end0
                      have hf := SM.merged HCUT.out (by omega) (by omega) (HROT.out.mono (by omega) (by omega)) HE2.out HR2.out (SM.Sim.refl _ _ _) HR3.out
                      exact ⟨rfl, HKy.out, _, hf.1, hf.2, HDy.out⟩
                    · clear ht
                      have ht3 : decide (mid < e) = false := decide_eq_false ht1
                      go_wp2
                      go_end0
                      have hf := SM.merged HCUT.out (by omega) (by omega) (HROT.out.mono (by omega) (by omega)) HE2.out HR2.out (SM.Sim.refl _ _ _) HR3.out
                      exact ⟨rfl, HKy.out, _, hf.1, hf.2, HDy.out⟩
                · clear hs
                  have hs3 : decide (a < i) = false := decide_eq_false hs1
                  go_upto_region 43 with (fail)
                  have HIN2 := Lib.hid (HIN1.out.sim HE2.out (by omega))
                  have HT1 : Hid (SM.Srt r E2 mid e) := Lib.hid (HCUT.out.s3.same (fun k k1 k2 => HE2.out.out k (by omega)))
                  have HT2 : Hid (SM.Srt r E2 e b) := Lib.hid (HCUT.out.s4.same (fun k k1 k2 => HE2.out.out k (by omega)))
                  have HT3 : Hid (SM.Crs r E2 mid e b) := Lib.hid (fun p q k1 k2 k3 k4 k5 => by
                    rw [HE2.out.out p (by omega), HE2.out.out q (by omega)] at k5 ⊢
                    exact HCUT.out.c2 p q k1 k2 k3 k4 k5)
                  by_cases ht : mid < e ∧ e < b
                  · have ht1 := ht.1
                    have ht2 := ht.2
                    clear ht
                    have hc2 := ih mid e b E2 wy (by omega) ht1 ht2 (by omega) HKy.out HDy.out HIN2.out HT1.out HT2.out HT3.out
                    go_wp2_with (go_at_call 94; refine hc2.mono ?_; rintro x wx ⟨rfl, k1, E3, k2, k3, k4⟩; have HKx := Lib.hid k1; have HE3 := Lib.hid k2; have HR3 := Lib.hid k3; have HDx := Lib.hid k4; clear k1 k2 k3 k4)
                    go_end0
                    have hf := SM.merged HCUT.out (by omega) (by omega) (HROT.out.mono (by omega) (by omega)) HE2.out HR2.out HE3.out HR3.out
                    exact ⟨rfl, HKx.out, _, hf.1, hf.2, HDx.out⟩
                  · have HR3 : Hid (SM.Srt r E2 mid b) := Lib.hid (by
                      by_cases k : mid < e
                      · exact HT1.out.sub (Nat.le_refl _) (by omega)
                      · exact HT2.out.sub (by omega) (Nat.le_refl _))
                    by_cases ht1 : mid < e
                    · have ht2 : ¬ (e < b) := by omega
                      have ht3 : decide (e < b) = false := decide_eq_false ht2
                      clear ht
                      go_wp2
                      go_end0
                      have hf := SM.merged HCUT.out (by omega) (by omega) (HROT.out.mono (by omega) (by omega)) HE2.out HR2.out (SM.Sim.refl _ _ _) HR3.out
                      exact ⟨rfl, HKy.out, _, hf.1, hf.2, HDy.out⟩
                    · clear ht
                      have ht3 : decide (mid < e) = false := decide_eq_false ht1
                      go_wp2
                      go_end0
                      have hf := SM.merged HCUT.out (by omega) (by omega) (HROT.out.mono (by omega) (by omega)) HE2.out HR2.out (SM.Sim.refl _ _ _) HR3.out
                      exact ⟨rfl, HKy.out, _, hf.1, hf.2, HDy.out⟩
            · clear hr hr1
              have hr3 : decide (i < m) = false := decide_eq_false hi2
              go_upto_region 41 with (fail)
              generalize SM.rot D i m e = E1 at *
              by_cases hs : a < i ∧ i < mid
              · have hs1 := hs.1
                have hs2 := hs.2
                clear hs
                have hc := ih a i mid E1 wz (by omega) hs1 hs2 (by omega) HKz.out HDz.out HIN1.out HCUT.out.s1 HCUT.out.s2 HCUT.out.c1
                go_upto_region 43 with (go_at_call 94; refine hc.mono ?_; rintro x wy ⟨rfl, k1, E2, k2, k3, k4⟩; have HKy := Lib.hid k1; have HE2 := Lib.hid k2; have HR2 := Lib.hid k3; have HDy := Lib.hid k4; clear k1 k2 k3 k4)
                clear HKz HDz
                have HIN2 := Lib.hid (HIN1.out.sim HE2.out (by omega))
                have HT1 : Hid (SM.Srt r E2 mid e) := Lib.hid (HCUT.out.s3.same (fun k k1 k2 => HE2.out.out k (by omega)))
                have HT2 : Hid (SM.Srt r E2 e b) := Lib.hid (HCUT.out.s4.same (fun k k1 k2 => HE2.out.out k (by omega)))
                have HT3 : Hid (SM.Crs r E2 mid e b) := Lib.hid (fun p q k1 k2 k3 k4 k5 => by
                  rw [HE2.out.out p (by omega), HE2.out.out q (by omega)] at k5 ⊢
                  exact HCUT.out.c2 p q k1 k2 k3 k4 k5)
                by_cases ht : mid < e ∧ e < b
                · have ht1 := ht.1
                  have ht2 := ht.2
                  clear ht
                  have hc2 := ih mid e b E2 wy (by omega) ht1 ht2 (by omega) HKy.out HDy.out HIN2.out HT1.out HT2.out HT3.out
                  go_wp2_with (go_at_call 94; refine hc2.mono ?_; rintro x wx ⟨rfl, k1, E3, k2, k3, k4⟩; have HKx := Lib.hid k1; have HE3 := Lib.hid k2; have HR3 := Lib.hid k3; have HDx := Lib.hid k4; clear k1 k2 k3 k4)
                  go_end0
                  have hf := SM.merged HCUT.out (by omega) (by omega) (HROT.out.mono (by omega) (by omega)) HE2.out HR2.out HE3.out HR3.out
                  exact ⟨rfl, HKx.out, _, hf.1, hf.2, HDx.out⟩
                · have HR3 : Hid (SM.Srt r E2 mid b) := Lib.hid (by
                    by_cases k : mid < e
                    · exact HT1.out.sub (Nat.le_refl _) (by omega)
                    · exact HT2.out.sub (by omega) (Nat.le_refl _))
                  by_cases ht1 : mid < e
                  · have ht2 : ¬ (e < b) := by omega
                    have ht3 : decide (e < b) = false := decide_eq_false ht2
                    clear ht
                    go_wp2
                    go_end0
                    have hf := SM.merged HCUT.out (by omega) (by omega) (HROT.out.mono (by omega) (by omega)) HE2.out HR2.out (SM.Sim.refl _ _ _) HR3.out
                    exact ⟨rfl, HKy.out, _, hf.1, hf.2, HDy.out⟩
                  · clear ht
                    have ht3 : decide (mid < e) = false := decide_eq_false ht1
                    go_wp2
                    go_end0
                    have hf := SM.merged HCUT.out (by omega) (by omega) (HROT.out.mono (by omega) (by omega)) HE2.out HR2.out (SM.Sim.refl _ _ _) HR3.out
                    exact ⟨rfl, HKy.out, _, hf.1, hf.2, HDy.out⟩
              · obtain ⟨E2, hE2⟩ : ∃ E2, E2 = E1 := ⟨_, rfl⟩
                have HE2 : Hid (SM.Sim E2 E1 a mid) := Lib.hid (by rw [hE2]; exact SM.Sim.refl _ _ _)
                have HR2 : Hid (SM.Srt r E2 a mid) := Lib.hid (by
                  rw [hE2]
                  by_cases k : a < i
                  · exact HCUT.out.s1.sub (Nat.le_refl _) (by omega)
                  · exact HCUT.out.s2.sub (by omega) (Nat.le_refl _))
                have HDy : Hid (Ord wz o n rest E2) := Lib.hid (by rw [hE2]; exact HDz.out)
                have HKy := HKz
                obtain ⟨wy, hwy⟩ : ∃ x, x = wz := ⟨_, rfl⟩
                rw [← hwy] at HKy HDy ⊢
                clear HKz HDz hE2 hwy
                by_cases hs1 : a < i
                · have hs2 : ¬ (i < mid) := by omega
                  have hs3 : decide (i < mid) = false := decide_eq_false hs2
                  clear hs
                  go_upto_region 43 with (fail)
                  have HIN2 := Lib.hid (HIN1.out.sim HE2.out (by omega))
                  have HT1 : Hid (SM.Srt r E2 mid e) := Lib.hid (HCUT.out.s3.same (fun k k1 k2 => HE2.out.out k (by omega)))
                  have HT2 : Hid (SM.Srt r E2 e b) := Lib.hid (HCUT.out.s4.same (fun k k1 k2 => HE2.out.out k (by omega)))
                  have HT3 : Hid (SM.Crs r E2 mid e b) := Lib.hid (fun p q k1 k2 k3 k4 k5 => by
                    rw [HE2.out.out p (by omega), HE2.out.out q (by omega)] at k5 ⊢
                    exact HCUT.out.c2 p q k1 k2 k3 k4 k5)
                  by_cases ht : mid < e ∧ e < b
                  · have ht1 := ht.1
                    have ht2 := ht.2
                    clear ht
                    have hc2 := ih mid e b E2 wy (by omega) ht1 ht2 (by omega) HKy.out HDy.out HIN2.out HT1.out HT2.out HT3.out
                    go_wp2_with (go_at_call 94; refine hc2.mono ?_; rintro x wx ⟨rfl, k1, E3, k2, k3, k4⟩; have HKx := Lib.hid k1; have HE3 := Lib.hid k2; have HR3 := Lib.hid k3; have HDx := Lib.hid k4; clear k1 k2 k3 k4)
                    go_end0
                    have hf := SM.merged HCUT.out (by omega) (by omega) (HROT.out.mono (by omega) (by omega)) HE2.out HR2.out HE3.out HR3.out
                    exact ⟨rfl, HKx.out, _, hf.1, hf.2, HDx.out⟩
                  · have HR3 : Hid (SM.Srt r E2 mid b) := Lib.hid (by
                      by_cases k : mid < e
                      · exact HT1.out.sub (Nat.le_refl _) (by omega)
                      · exact HT2.out.sub (by omega) (Nat.le_refl _))
                    by_cases ht1 : mid < e
                    · have ht2 : ¬ (e < b) := by omega
                      have ht3 : decide (e < b) = false := decide_eq_false ht2
                      clear ht
                      go_wp2
                      go_end0
                      have hf := SM.merged HCUT.out (by omega) (by omega) (HROT.out.mono (by omega) (by omega)) HE2.out HR2.out (SM.Sim.refl _ _ _) HR3.out
                      exact ⟨rfl, HKy.out, _, hf.1, hf.2, HDy.out⟩
                    · clear ht
                      have ht3 : decide (mid < e) = false := decide_eq_false ht1
                      go_wp2
                      go_end0
                      have hf := SM.merged HCUT.out (by omega) (by omega) (HROT.out.mono (by omega) (by omega)) HE2.out HR2.out (SM.Sim.refl _ _ _) HR3.out
                      exact ⟨rfl, HKy.out, _, hf.1, hf.2, HDy.out⟩
                · clear hs
                  have hs3 : decide (a < i) = false := decide_eq_false hs1
                  go_upto_region 43 with (fail)
                  have HIN2 := Lib.hid (HIN1.out.sim HE2.out (by omega))
                  have HT1 : Hid (SM.Srt r E2 mid e) := Lib.hid (HCUT.out.s3.same (fun k k1 k2 => HE2.out.out k (by omega)))
                  have HT2 : Hid (SM.Srt r E2 e b) := Lib.hid (HCUT.out.s4.same (fun k k1 k2 => HE2.out.out k (by omega)))
                  have HT3 : Hid (SM.Crs r E2 mid e b) := Lib.hid (fun p q k1 k2 k3 k4 k5 => by
                    rw [HE2.out.out p (by omega), HE2.out.out q (by omega)] at k5 ⊢
                    exact HCUT.out.c2 p q k1 k2 k3 k4 k5)
                  by_cases ht : mid < e ∧ e < b
                  · have ht1 := ht.1
                    have ht2 := ht.2
                    clear ht
                    have hc2 := ih mid e b E2 wy (by omega) ht1 ht2 (by omega) HKy.out HDy.out HIN2.out HT1.out HT2.out HT3.out
                    go_wp2_with (go_at_call 94; refine hc2.mono ?_; rintro x wx ⟨rfl, k1, E3, k2, k3, k4⟩; have HKx := Lib.hid k1; have HE3 := Lib.hid k2; have HR3 := Lib.hid k3; have HDx := Lib.hid k4; clear k1 k2 k3 k4)
                    go_end0
                    have hf := SM.merged HCUT.out (by omega) (by omega) (HROT.out.mono (by omega) (by omega)) HE2.out HR2.out HE3.out HR3.out
                    exact ⟨rfl, HKx.out, _, hf.1, hf.2, HDx.out⟩
                  · have HR3 : Hid (SM.Srt r E2 mid b) := Lib.hid (by
                      by_cases k : mid < e
                      · exact HT1.out.sub (Nat.le_refl _) (by omega)
                      · exact HT2.out.sub (by omega) (Nat.le_refl _))
                    by_cases ht1 : mid < e
                    · have ht2 : ¬ (e < b) := by omega
                      have ht3 : decide (e < b) = false := decide_eq_false ht2
                      clear ht
                      go_wp2
                      go_end0
                      have hf := SM.merged HCUT.out (by omega) (by omega) (HROT.out.mono (by omega) (by omega)) HE2.out HR2.out (SM.Sim.refl _ _ _) HR3.out
                      exact ⟨rfl, HKy.out, _, hf.1, hf.2, HDy.out⟩
                    · clear ht
                      have ht3 : decide (mid < e) = false := decide_eq_false ht1
                      go_wp2
                      go_end0
                      have hf := SM.merged HCUT.out (by omega) (by omega) (HROT.out.mono (by omega) (by omega)) HE2.out HR2.out (SM.Sim.refl _ _ _) HR3.out
                      exact ⟨rfl, HKy.out, _, hf.1, hf.2, HDy.out⟩
end
end Go.Proofs.Ytgdkimdikalmkaa
