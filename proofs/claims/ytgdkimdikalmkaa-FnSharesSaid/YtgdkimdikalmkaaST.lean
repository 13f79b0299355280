/- Sorting by merging in place, walked: the whole. No condition but those that each theorem names. -/
import Derived.Test.YtgdkimdikalmkaaSQ
namespace Go.Proofs.Ytgdkimdikalmkaa
open Go.RowKit Go.Proofs.YtgdkimdikalmkaaW.PrintWords Go.Proofs.YtgdkimdikalmkaaW.PrintLast Go.Proofs.YtgdkimdikalmkaaW.PrintMore
set_option linter.unusedSimpArgs false
set_option linter.unusedVariables false

theorem dvd_gap {d t a : Nat} (hd : d ∣ t) (ha : d ∣ a) (h : t < a) : t + d ≤ a := by
  obtain ⟨x, rfl⟩ := hd
  obtain ⟨y, rfl⟩ := ha
  have hxy : x < y := Nat.lt_of_mul_lt_mul_left h
  have h1 : d * (x + 1) ≤ d * y := Nat.mul_le_mul_left d hxy
  rw [Nat.mul_succ] at h1
  exact h1
/-- Blocks of d are sorted, up to place a. -/
def Seg (r : Nat → Int) (D : Nat → Nat) (d n : Nat) (lo hi : Nat) : Prop := ∀ t, d ∣ t → lo ≤ t → t < hi → SM.Srt r D t (min (t + d) n)
section
variable {r : Nat → Int} {D D' : Nat → Nat} {d n a b lo hi : Nat}
theorem Seg.below (h : Seg r D d n lo hi) (ha : d ∣ hi) (hs : SM.Sim D' D hi b) : Seg r D' d n lo hi := fun t h1 h2 h3 => by
  have := dvd_gap h1 ha h3
  exact (h t h1 h2 h3).same (fun i k1 k2 => hs.out i (by omega))
theorem Seg.above (h : Seg r D d n lo hi) (hb : b ≤ lo) (hs : SM.Sim D' D a b) : Seg r D' d n lo hi := fun t h1 h2 h3 => (h t h1 h2 h3).same (fun i k1 k2 => hs.out i (by omega))
theorem Seg.add (h : Seg r D d n lo a) (ha : d ∣ a) (hab : b ≤ a + d) (hbn : b ≤ n) (hb : hi ≤ b) (hm : min (a + d) n ≤ b) (hs : SM.Srt r D a b) : Seg r D d n lo hi := fun t h1 h2 h3 => by
  by_cases k : t < a
  · exact h t h1 h2 k
  · have e : t = a := by
      by_cases k2 : a < t
      · have := dvd_gap ha h1 k2
        omega
      · omega
    rw [e]
    exact hs.sub (Nat.le_refl _) hm
theorem Seg.more (h : Seg r D d n lo hi) (h1 : lo ≤ a) (h2 : b ≤ hi) : Seg r D d n a b := fun t k1 k2 k3 => h t k1 (by omega) (by omega)
theorem dvd_two {d a : Nat} (h : 2 * d ∣ a) : d ∣ a := Nat.dvd_trans (Nat.dvd_mul_left d 2) h
theorem SM.Stb.crs {m : Nat} (h : SM.Stb r D n) (hb : b ≤ n) : SM.Crs r D a m b := fun i j h1 h2 h3 h4 he => h i j (by omega) (by omega) he
end
section
variable {g o n cap : Nat} {caps : Array Value} {r : Nat → Int} {rest : List Value} {w0 : World}
set_option maxRecDepth 100000 in
set_option maxHeartbeats 8000000 in
theorem stable_any (hn : n ≤ 1000) (hC : CmpOk g caps r o n w0) (eg : ∀ args w, (callFunc g args).run Try.prog w = .ok (.enter g args) w) (D0 : Nat → Nat) (w : World) (hk : Kept o w0 w) (hO : Ord w o n rest D0) (hin : In D0 n) (hst : SM.Stb r D0 n) :
    Calls Try.prog 89 #[.slice (some ⟨o, 0, none⟩) n cap, .int .i64 (n : Int), .func (.func g) #[] caps] w fun e w' => e = .returned (.tuple #[]) ∧ Kept o w0 w' ∧ ∃ D', SM.Sim D' D0 0 n ∧ SM.Srt r D' 0 n ∧ Ord w' o n rest D' := by
  have HK := Lib.hid hk
  have HO := Lib.hid hO
  have HIN := Lib.hid hin
  have HST := Lib.hid hst
  have HC := Lib.hid hC
  clear hk hO hin hst hC
  go_enter Try.func89, Try.ntmps89
  go_wp2
  go_loopw [7, 8] (fun u v wr => ∃ (a : Nat) (D : Nat → Nat), Hid (20 ∣ a) ∧ a ≤ n ∧ u = .int .i64 (a : Int) ∧ v = .int .i64 ((a : Int) + 20) ∧ Hid (Kept o w0 wr) ∧ Hid (Ord wr o n rest D) ∧ Hid (SM.Sim D D0 0 n ∧ SM.Stb r D n ∧ Seg r D 20 n 0 a)) (fun u _ _ => n - (intOf u).toNat)
  case atStart => exact ⟨0, D0, Lib.hid ⟨0, rfl⟩, by omega, rfl, rfl, HK, HO, Lib.hid ⟨SM.Sim.refl _ _ _, HST.out, fun t h1 h2 h3 => by omega⟩⟩
  case round =>
    clear HK HO
    obtain ⟨a, D, HD20, han, rfl, rfl, HK, HO, HS⟩ := hrel
    have HIND := Lib.hid (HIN.out.sim HS.out.1 (Nat.le_refl _))
    by_cases hlt : a + 20 ≤ n
    · have hc := insertion_any (cap := cap) (a := a) (b := a + 20) (by omega) hlt hn HC.out eg D wr HK.out HO.out HIND.out HS.out.2.1
      rw [show ((a + 20 : Nat) : Int) = (a : Int) + 20 by omega] at hc
      have hz : (a : Int) + 20 ≤ (n : Int) := by omega
      have wi : IntKind.i64.wrap ((a : Int) + 20 + 20) = (a : Int) + 20 + 20 := by rw [IntKind.wrap_i64]; omega
      go_wp2_with (go_at_call 93; refine hc.mono ?_; rintro x wz ⟨rfl, k1, E, k2, k3, k4⟩; have HKz := Lib.hid k1; have HE := Lib.hid k2; have HR := Lib.hid k3; have HDz := Lib.hid k4; clear k1 k2 k3 k4)
      go_roundw
      case rel => exact ⟨a + 20, E, Lib.hid ((Nat.dvd_add_right HD20.out).2 (Nat.dvd_refl 20)), hlt, by go_num, by go_num, HKz, HDz, Lib.hid ⟨HS.out.1.trans (HE.out.mono (Nat.zero_le _) hlt), HS.out.2.1.sim HE.out HR.out hlt, Seg.add (HS.out.2.2.below HD20.out HE.out) HD20.out (Nat.le_refl _) hlt (Nat.le_refl _) (by omega) HR.out⟩⟩
      case measure => simp only [intOf]; omega
    · have hc := insertion_any (cap := cap) (a := a) (b := n) han (Nat.le_refl _) hn HC.out eg D wr HK.out HO.out HIND.out HS.out.2.1
      have hz : ¬ ((a : Int) + 20 ≤ (n : Int)) := by omega
      go_upto_region 7 with (go_at_call 93; refine hc.mono ?_; rintro x wz ⟨rfl, k1, E, k2, k3, k4⟩; have HKz := Lib.hid k1; have HE := Lib.hid k2; have HR := Lib.hid k3; have HDz := Lib.hid k4; clear k1 k2 k3 k4)
      have HSE : Hid (SM.Sim E D0 0 n ∧ SM.Stb r E n ∧ Seg r E 20 n 0 n) := Lib.hid ⟨HS.out.1.trans (HE.out.mono (Nat.zero_le _) (Nat.le_refl _)), HS.out.2.1.sim HE.out HR.out (Nat.le_refl _), Seg.add (HS.out.2.2.below HD20.out HE.out) HD20.out (by omega) (Nat.le_refl _) (Nat.le_refl _) (by omega) HR.out⟩
      clear HE HR HS HK HO HIND
      go_wp2
      go_loopw [6, 7, 8, 9] (fun u _ _ _ wr => ∃ (d : Nat) (D : Nat → Nat), 1 ≤ d ∧ d ≤ 2000 ∧ u = .int .i64 (d : Int) ∧ Hid (Kept o w0 wr) ∧ Hid (Ord wr o n rest D) ∧ Hid (SM.Sim D D0 0 n ∧ SM.Stb r D n ∧ Seg r D d n 0 n)) (fun u _ _ _ _ => 2001 - (intOf u).toNat)
      case atStart => exact ⟨20, E, by omega, by omega, rfl, HKz, HDz, HSE⟩
      case round =>
        clear HKz HDz HSE
        obtain ⟨d, D, hd1, hd2, rfl, HK, HO, HS⟩ := hrel
        by_cases hlt2 : d < n
        · have wd : IntKind.i64.wrap (2 * (d : Int)) = 2 * (d : Int) := by rw [IntKind.wrap_i64]; omega
          have wd2 : IntKind.i64.wrap ((d : Int) * 2) = 2 * (d : Int) := by rw [IntKind.wrap_i64]; omega
          go_wp2
          go_loopw [7, 8] (fun u v wr => ∃ (a : Nat) (D : Nat → Nat), Hid (2 * d ∣ a) ∧ a ≤ n ∧ u = .int .i64 (a : Int) ∧ v = .int .i64 ((a : Int) + 2 * (d : Int)) ∧ Hid (Kept o w0 wr) ∧ Hid (Ord wr o n rest D) ∧ Hid (SM.Sim D D0 0 n ∧ SM.Stb r D n ∧ Seg r D (2 * d) n 0 a ∧ Seg r D d n a n)) (fun u _ _ => n - (intOf u).toNat)
          case atStart => exact ⟨0, D, Lib.hid ⟨0, rfl⟩, by omega, rfl, by go_num, HK, HO, Lib.hid ⟨HS.out.1, HS.out.2.1, fun t h1 h2 h3 => by omega, HS.out.2.2⟩⟩
          case round =>
            clear HK HO HS
            obtain ⟨a, D, HDD, han, rfl, rfl, HK, HO, HS⟩ := hrel
            have HIND := Lib.hid (HIN.out.sim HS.out.1 (Nat.le_refl _))
            have wm : IntKind.i64.wrap ((a : Int) + (d : Int)) = (a : Int) + (d : Int) := by rw [IntKind.wrap_i64]; omega
            have HDA := Lib.hid (dvd_two HDD.out)
            have HDM := Lib.hid ((Nat.dvd_add_right HDA.out).2 (Nat.dvd_refl d))
            by_cases hlt3 : a + 2 * d ≤ n
            · have h1 := HS.out.2.2.2 a HDA.out (Nat.le_refl _) (by omega)
              rw [show min (a + d) n = a + d by omega] at h1
              have h2 := HS.out.2.2.2 (a + d) HDM.out (by omega) (by omega)
              rw [show min (a + d + d) n = a + 2 * d by omega] at h2
              have hc := symMerge_any (cap := cap) hn HC.out eg (a + 2 * d - a + 1) a (a + d) (a + 2 * d) D wr (by omega) (by omega) (by omega) hlt3 HK.out HO.out HIND.out h1 h2 (SM.Stb.crs HS.out.2.1 hlt3)
              rw [show ((a + 2 * d : Nat) : Int) = (a : Int) + 2 * (d : Int) by omega, show ((a + d : Nat) : Int) = (a : Int) + (d : Int) by omega] at hc
              have hz : (a : Int) + 2 * (d : Int) ≤ (n : Int) := by omega
              have wi : IntKind.i64.wrap ((a : Int) + 2 * (d : Int) + 2 * (d : Int)) = (a : Int) + 2 * (d : Int) + 2 * (d : Int) := by rw [IntKind.wrap_i64]; omega
              clear h1 h2
              go_wp2_with (go_at_call 94; refine hc.mono ?_; rintro x wz ⟨rfl, k1, E, k2, k3, k4⟩; have HKz := Lib.hid k1; have HE := Lib.hid k2; have HR := Lib.hid k3; have HDz := Lib.hid k4; clear k1 k2 k3 k4)
              go_roundw
              case rel => exact ⟨a + 2 * d, E, Lib.hid ((Nat.dvd_add_right HDD.out).2 (Nat.dvd_refl _)), hlt3, by go_num, by go_num, HKz, HDz, Lib.hid ⟨HS.out.1.trans (HE.out.mono (Nat.zero_le _) hlt3), HS.out.2.1.sim HE.out HR.out hlt3, Seg.add (HS.out.2.2.1.below HDD.out HE.out) HDD.out (Nat.le_refl _) hlt3 (Nat.le_refl _) (by omega) HR.out, (HS.out.2.2.2.more (by omega) (Nat.le_refl _)).above (Nat.le_refl _) HE.out⟩⟩
              case measure => simp only [intOf]; omega
            · have hz : ¬ ((a : Int) + 2 * (d : Int) ≤ (n : Int)) := by omega
              by_cases hlt4 : a + d < n
              · have h1 := HS.out.2.2.2 a HDA.out (Nat.le_refl _) (by omega)
                rw [show min (a + d) n = a + d by omega] at h1
                have h2 := HS.out.2.2.2 (a + d) HDM.out (by omega) (by omega)
                rw [show min (a + d + d) n = n by omega] at h2
                have hc := symMerge_any (cap := cap) hn HC.out eg (n - a + 1) a (a + d) n D wr (by omega) (by omega) (by omega) (Nat.le_refl _) HK.out HO.out HIND.out h1 h2 (SM.Stb.crs HS.out.2.1 (Nat.le_refl _))
                rw [show ((a + d : Nat) : Int) = (a : Int) + (d : Int) by omega] at hc
                have hz4 : (a : Int) + (d : Int) < (n : Int) := by omega
                clear h1 h2
                go_wp2_with (go_at_call 94; refine hc.mono ?_; rintro x wz ⟨rfl, k1, E, k2, k3, k4⟩; have HKz := Lib.hid k1; have HE := Lib.hid k2; have HR := Lib.hid k3; have HDz := Lib.hid k4; clear k1 k2 k3 k4)
                go_roundw
                case rel => exact ⟨2 * d, E, by omega, by omega, by go_num, HKz, HDz, Lib.hid ⟨HS.out.1.trans (HE.out.mono (Nat.zero_le _) (Nat.le_refl _)), HS.out.2.1.sim HE.out HR.out (Nat.le_refl _), Seg.add (HS.out.2.2.1.below HDD.out HE.out) HDD.out (by omega) (Nat.le_refl _) (Nat.le_refl _) (by omega) HR.out⟩⟩
                case measure => simp only [intOf]; omega
              · have hz4 : ¬ ((a : Int) + (d : Int) < (n : Int)) := by omega
                have HR : Hid (SM.Srt r D a n) := Lib.hid (by
                  by_cases k : a < n
                  · have h1 := HS.out.2.2.2 a HDA.out (Nat.le_refl _) k
                    rw [show min (a + d) n = n by omega] at h1
                    exact h1
                  · intro i j k1 k2 k3
                    omega)
                go_wp2
                go_roundw
                case rel => exact ⟨2 * d, D, by omega, by omega, by go_num, HK, HO, Lib.hid ⟨HS.out.1, HS.out.2.1, Seg.add HS.out.2.2.1 HDD.out (by omega) (Nat.le_refl _) (Nat.le_refl _) (by omega) HR.out⟩⟩
                case measure => simp only [intOf]; omega
        · go_wp2
          go_end0
          refine ⟨rfl, HK.out, D, HS.out.1, ?_, HO.out⟩
          by_cases k : 0 < n
          · have h1 := HS.out.2.2 0 ⟨0, rfl⟩ (Nat.le_refl _) k
            rw [show min (0 + d) n = n by omega] at h1
            exact h1
          · intro i j k1 k2 k3
            omega
theorem sortStable_any (hn : n ≤ 1000) (hC : CmpOk g caps r o n w0) (eg : ∀ args w, (callFunc g args).run Try.prog w = .ok (.enter g args) w) (D0 : Nat → Nat) (w : World) (hk : Kept o w0 w) (hO : Ord w o n rest D0) (hin : In D0 n) (hst : SM.Stb r D0 n) :
    Calls Try.prog 81 #[.slice (some ⟨o, 0, none⟩) n cap, .func (.func g) #[] caps] w fun e w' => e = .returned (.tuple #[]) ∧ Kept o w0 w' ∧ ∃ D', SM.Sim D' D0 0 n ∧ SM.Srt r D' 0 n ∧ Ord w' o n rest D' := by
  have HX := Lib.hid (stable_any (cap := cap) hn hC eg D0 w hk hO hin hst)
  clear hk hO hin hst hC
  go_enter Try.func81, Try.ntmps81
  go_wp2_with (go_at_call 89; refine HX.out.mono ?_; rintro x wz ⟨rfl, k1, E, k2, k3, k4⟩; have HKz := Lib.hid k1; have HE := Lib.hid k2; have HR := Lib.hid k3; have HDz := Lib.hid k4; clear k1 k2 k3 k4)
  go_end0
  exact ⟨rfl, HKz.out, E, HE.out, HR.out, HDz.out⟩
end
end Go.Proofs.Ytgdkimdikalmkaa
