/- Money shared in the proportion of amounts, by the reference: the plain function. No condition but the list's length. -/
import Derived.Test.YtgdkimdikalmkaaSX
namespace Go.Proofs.Ytgdkimdikalmkaa
open Go.RowKit Go.Proofs.YtgdkimdikalmkaaW.PrintWords Go.Proofs.YtgdkimdikalmkaaW.PrintLast Go.Proofs.YtgdkimdikalmkaaW.PrintMore Go.Proofs.Ytgdkimdikalmkaa.PAll
set_option linter.unusedSimpArgs false
set_option linter.unusedVariables false

def lst (f : Nat → Int) (n : Nat) : List Int := (List.range n).map f
theorem lst_len (f : Nat → Int) (n : Nat) : (lst f n).length = n := by simp [lst]
theorem lst_rd (f : Nat → Int) {n i : Nat} (h : i < n) : rd (lst f n) (i : Int) = f i := map_rd f h
theorem lst_set (f : Nat → Int) {n i : Nat} (h : i < n) (v : Int) : (lst f n).set i v = lst (SH.up f i v) n := map_set f h v
theorem lst_succ (f : Nat → Int) (n : Nat) : lst f (n + 1) = lst f n ++ [f n] := by simp [lst, List.range_succ]
theorem sr_l2 {n : Nat} (hn : n ≤ 1000) (R Q : Nat → Int) (x10 : Int) (res : List Int × Int)
    (h : Ev (fun k => spec_SharesOf.l1 k (lst (SH.up Q (SH.sel R (n - 1)) (wrap64 (Q (SH.sel R (n - 1)) + 1))) n) (lst (SH.up R (SH.sel R (n - 1)) (-1)) n) (wrap64 (x10 - 1))) res) :
    ∀ d k : Nat, k + 1 + d = n → Ev (fun fu => spec_SharesOf.l2 fu (lst Q n) (lst R n) x10 ((SH.sel R k : Nat) : Int) ((k + 1 : Nat) : Int)) res
  | 0, k, hk => by
    have hs := SH.sel_le R k
    refine Ev.step (f := fun fu => spec_SharesOf.l1 fu (lst (SH.up Q (SH.sel R (n - 1)) (wrap64 (Q (SH.sel R (n - 1)) + 1))) n) (lst (SH.up R (SH.sel R (n - 1)) (-1)) n) (wrap64 (x10 - 1))) (fun fu => ?_) h
    have e : n - 1 = k := by omega
    rw [e]
    simp only [spec_SharesOf.l2, lst_len]
    rw [if_neg (by omega), if_pos (by omega), if_pos (by omega), if_pos (by omega), Int.toNat_natCast, lst_rd Q (by omega), lst_set Q (by omega), lst_set R (by omega)]
  | d + 1, k, hk => by
    have hs := SH.sel_le R k
    refine Ev.step (f := fun fu => spec_SharesOf.l2 fu (lst Q n) (lst R n) x10 ((SH.sel R (k + 1) : Nat) : Int) ((k + 1 + 1 : Nat) : Int)) (fun fu => ?_) (sr_l2 hn R Q x10 res h d (k + 1) (by omega))
    have e : wrap64 (((k + 1 : Nat) : Int) + 1) = ((k + 1 + 1 : Nat) : Int) := by unfold wrap64; omega
    simp only [spec_SharesOf.l2, lst_len]
    rw [if_pos (by omega), if_pos (by omega), if_pos (by omega), if_pos (by omega), lst_rd R (by omega), lst_rd R (by omega), e]
    simp only [SH.sel]
    by_cases hc : R (k + 1) > R (SH.sel R k)
    · rw [if_pos hc, if_pos hc]
    · rw [if_neg hc, if_neg hc]
theorem sr_l1 {n : Nat} (hn0 : 0 < n) (hn : n ≤ 1000) (q r : Nat → Int) (hq : ∀ i, 0 ≤ q i ∧ q i ≤ 1000000000000) (lf : Nat) (hl : lf ≤ n) :
    ∀ d t : Nat, t + d = lf → Ev (fun k => spec_SharesOf.l1 k (lst (SH.run n (q, r) t).1 n) (lst (SH.run n (q, r) t).2 n) (d : Int)) (lst (SH.run n (q, r) lf).1 n, 0)
  | 0, t, ht => by
    obtain rfl : t = lf := by omega
    refine Ev.step (f := fun _ => some _) (fun fu => ?_) (Ev.now _)
    simp only [spec_SharesOf.l1]
    rw [if_neg (by omega)]
  | d + 1, t, ht => by
    have hbd := run_bd (n := n) (q := q) (r := r) (c := 1000000000000) hq t (SH.sel (SH.run n (q, r) t).2 (n - 1))
    have hw : wrap64 ((SH.run n (q, r) t).1 (SH.sel (SH.run n (q, r) t).2 (n - 1)) + 1) = (SH.run n (q, r) t).1 (SH.sel (SH.run n (q, r) t).2 (n - 1)) + 1 := by unfold wrap64; omega
    have hd : wrap64 (((d + 1 : Nat) : Int) - 1) = (d : Int) := by unfold wrap64; omega
    have h2 := sr_l2 hn (SH.run n (q, r) t).2 (SH.run n (q, r) t).1 ((d + 1 : Nat) : Int) (lst (SH.run n (q, r) lf).1 n, 0) (by
      rw [hw, hd]
      exact sr_l1 hn0 hn q r hq lf hl d (t + 1) (by omega)) (n - 1) 0 (by omega)
    refine Ev.step (f := fun fu => spec_SharesOf.l2 fu (lst (SH.run n (q, r) t).1 n) (lst (SH.run n (q, r) t).2 n) ((d + 1 : Nat) : Int) 0 1) (fun fu => ?_) h2
    simp only [spec_SharesOf.l1]
    rw [if_pos (by omega)]
theorem isum_mono {f : Nat → Int} (h : ∀ i, 0 ≤ f i) : ∀ i d, SH.isum f i ≤ SH.isum f (i + d)
  | i, 0 => Int.le_refl _
  | i, d + 1 => by have h1 := isum_mono h i d; have h2 := h (i + d); show _ ≤ SH.isum f (i + d) + f (i + d); omega
theorem wrap_sm {p : Int} (h : 0 ≤ p ∧ p ≤ 1000000000000) : wrap64 p = p := by unfold wrap64; omega
theorem sr_num {m a b c q : Int} (hm : m ≤ 1000000) (h0 : 0 ≤ m - c) (hmo : b ≤ c) (hmo0 : 0 ≤ a) (hs : b = a + q) (hq : 0 ≤ q) : wrap64 (m - a - q) = m - b := by unfold wrap64; omega
theorem toNat_le {x : Int} {n : Nat} (h : x ≤ (n : Int)) : x.toNat ≤ n := by omega
theorem sr_left {am : List Int} {m S : Int} (hok : okAll am m = true) (hS : 0 < S) (hSe : S = wsum am am.length) : 0 ≤ m - SH.isum (shq am m S) am.length ∧ m - SH.isum (shq am m S) am.length ≤ (am.length : Int) := by
  have hw1 := (wsum_eq hok am.length (Nat.le_refl _)).1
  rw [← hSe] at hw1
  obtain ⟨hlf0, hlf1, -⟩ := SH.left_bound (a := fun j => rd am (j : Int)) hS hw1.symm (okAll_m hok).1 (fun i hi => (okAll_at hok hi).1)
  exact ⟨hlf0, hlf1⟩
theorem sr_l0 {am : List Int} {m S : Int} (hok : okAll am m = true) (hS : 0 < S) (hSe : S = wsum am am.length) (hn0 : 0 < am.length) :
    ∀ d i : Nat, i + d = am.length → Ev (fun k => spec_SharesOf.l0 k am m S (part (shq am m S) am.length i) (lst (shr am m S) i) (m - SH.isum (shq am m S) i) (i : Int)) (shTo am m S (shLeft am m S), 0)
  | 0, i, hi => by
    obtain rfl : i = am.length := hi
    have hl := okAll_len hok
    obtain ⟨h0, h1⟩ := sr_left hok hS hSe
    have e : m - SH.isum (shq am m S) am.length = ((shLeft am m S : Nat) : Int) := (Int.toNat_of_nonneg h0).symm
    have hle : shLeft am m S ≤ am.length := toNat_le h1
    have key := sr_l1 hn0 (Nat.le_trans hl (by decide)) (shq am m S) (shr am m S) (shq_all hok hS) (shLeft am m S) hle (shLeft am m S) 0 (Nat.zero_add _)
    refine Ev.step (f := fun k => spec_SharesOf.l1 k (lst (shq am m S) am.length) (lst (shr am m S) am.length) ((shLeft am m S : Nat) : Int)) (fun fu => ?_) key
    simp only [spec_SharesOf.l0]
    rw [if_neg (Int.lt_irrefl _), part_full, e]
    rfl
  | d + 1, i, hi => by
    have hl := okAll_len hok
    have hlt : i < am.length := by clear hSe; omega
    have ha := okAll_at hok hlt
    have hm := okAll_m hok
    have hmz := mul_bd hm.1 hm.2 ha.1 ha.2
    have hq := shq_bd hok hS hlt
    have hmo := isum_mono (f := shq am m S) (fun i => (shq_all hok hS i).1) (i + 1) d
    rw [show i + 1 + d = am.length by rw [← hi, Nat.add_assoc, Nat.add_comm 1 d]] at hmo
    have hmo0 := isum_mono (f := shq am m S) (fun i => (shq_all hok hS i).1) 0 i
    rw [Nat.zero_add] at hmo0
    refine Ev.step (f := fun k => spec_SharesOf.l0 k am m S (part (shq am m S) am.length (i + 1)) (lst (shr am m S) (i + 1)) (m - SH.isum (shq am m S) (i + 1)) ((i + 1 : Nat) : Int)) (fun fu => ?_) (sr_l0 hok hS hSe hn0 d (i + 1) (by rw [← hi, Nat.add_assoc, Nat.add_comm 1 d]))
    have e1 : wrap64 (m * rd am (i : Int)) = m * rd am (i : Int) := wrap_sm hmz
    have e2 : Int.tdiv (m * rd am (i : Int)) S = shq am m S i := Int.tdiv_eq_ediv_of_nonneg hmz.1
    have e3 : Int.tmod (m * rd am (i : Int)) S = shr am m S i := Int.tmod_eq_emod_of_nonneg hmz.1
    have e4 : wrap64 (shq am m S i) = shq am m S i := wrap_sm hq
    have e5 : rd (part (shq am m S) am.length (i + 1)) (i : Int) = shq am m S i := by
      show rd ((List.range am.length).map _) (i : Int) = _
      rw [map_rd _ hlt, if_pos (Nat.lt_succ_self _)]
    have e6 : wrap64 (m - SH.isum (shq am m S) i - shq am m S i) = m - SH.isum (shq am m S) (i + 1) := sr_num hm.2 (sr_left hok hS hSe).1 hmo hmo0 rfl hq.1
    have e7 : wrap64 ((i : Int) + 1) = ((i + 1 : Nat) : Int) := wnat (Nat.le_trans (Nat.le_of_lt hlt) (Nat.le_trans hl (by decide)))
    simp only [spec_SharesOf.l0, part_len, lst_len, Option.bind_some]
    rw [if_pos (Int.ofNat_lt.2 hlt), if_pos (Int.natCast_nonneg _), if_neg (Int.ne_of_gt hS), if_pos (Int.ofNat_lt.2 hlt), if_pos (Nat.lt_of_lt_of_le hlt (Nat.le_trans hl (by decide))), e1, e2, e3, e4, Int.toNat_natCast, part_set _ hlt, e5, e6, e7, ← lst_succ]
theorem pos_of {x : Int} (h : 0 ≤ x) (h2 : ¬ x = 0) : 0 < x := by omega
/-- The reference's shares. -/
theorem sShares_ev (am : List Int) (m : Int) (hl : am.length ≤ 1048576) : Ev (fun k => spec_SharesOf.f k am m) (shRes am m) := by
  unfold spec_SharesOf.f
  refine Ev.bind (code_s am m hl) ?_
  unfold shRes
  by_cases hq : codeOf am m = 0
  · have hok := sh_ok hq
    have h100 := okAll_len hok
    obtain ⟨hw1, hw2, hw3⟩ := wsum_eq hok am.length (Nat.le_refl _)
    refine Ev.congr (f := fun k => (spec_l06Sum.f k am).bind fun t121 => (if t121 = 0 then (some (List.replicate am.length 0, 0)) else (spec_SharesOf.l0 k am m t121 (List.replicate am.length 0) ([] : List Int) m 0))) (fun k => by
      rw [if_pos hq]
      refine congrArg _ (funext fun t => ?_)
      rw [if_pos (Int.natCast_nonneg _), Int.toNat_natCast, if_pos (Nat.le_trans hl (by decide)), Option.bind_some]) (Ev.bind (l06Sum am hl) ?_)
    rw [if_pos hq]
    by_cases hS0 : wsum am am.length = 0
    · simp only [if_pos hS0]
      exact Ev.now _
    · simp only [if_neg hS0]
      have hn0 : 0 < am.length := by
        rcases Nat.eq_zero_or_pos am.length with h | h
        · rw [h] at hS0
          exact absurd rfl hS0
        · exact h
      have h := sr_l0 hok (S := wsum am am.length) (pos_of hw2 hS0) rfl hn0 am.length 0 (Nat.zero_add _)
      rw [part_zero] at h
      have hz : m - SH.isum (shq am m (wsum am am.length)) 0 = m := Int.sub_zero m
      rw [hz] at h
      exact h
  · simp only [if_neg hq]
    exact Ev.now _
theorem sShares_any (am : List Int) (m : Int) (hl : am.length ≤ 1048576) (A : Option Addr) (c : Nat) (w : World) (hA : Kd.C (Kd.int .i64) w A am.length am) (hc : am.length ≤ c) :
    Calls Try.prog 42 #[.slice A am.length c, .int .i64 m] w fun e w' => ∃ v : Value, e = .returned (.tuple #[v, .int .i64 (shRes am m).2]) ∧ Made w w' (shRes am m).1 v ∧ Below w.heap.size w w' := by
  obtain ⟨k, h⟩ := sShares_ev am m hl
  exact spec_SharesOf.calls k A c am m _ _ w hA hc (h k (Nat.le_refl _))
end Go.Proofs.Ytgdkimdikalmkaa
