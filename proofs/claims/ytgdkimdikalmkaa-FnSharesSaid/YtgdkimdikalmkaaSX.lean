/- Money shared in the proportion of amounts, by the program. No condition but those that each theorem names. -/
import Derived.Test.YtgdkimdikalmkaaST
import Derived.Test.YtgdkimdikalmkaaPH
import Derived.Test.YtgdkimdikalmkaaDG
import Derived.Test.YtgdkimdikalmkaaCS
namespace Go.Proofs.Ytgdkimdikalmkaa
open Go.RowKit Go.Proofs.YtgdkimdikalmkaaW.PrintWords Go.Proofs.YtgdkimdikalmkaaW.PrintLast Go.Proofs.YtgdkimdikalmkaaW.PrintMore Go.Proofs.Ytgdkimdikalmkaa.PAll
set_option linter.unusedSimpArgs false
set_option linter.unusedVariables false

abbrev kI : Kd Int := Kd.int .i64
theorem infoQ_i64 : (Try.prog.info? 2).map (fun i => (i.zero, i.size, i.bytes)) = some (some (.int .i64 0), 1, 8) := by kernel_rfl
theorem infoQ_int : (Try.prog.info? 3).map (fun i => (i.zero, i.size, i.bytes)) = some (some (.int .i64 0), 1, 8) := by kernel_rfl
theorem zeroI64 (w : World) : (zeroValue 2).run Try.prog w = .ok (.int .i64 0) w := by kernel_rfl
def shq (am : List Int) (m S : Int) (i : Nat) : Int := m * rd am (i : Int) / S
def shr (am : List Int) (m S : Int) (i : Nat) : Int := m * rd am (i : Int) % S
def shTo (am : List Int) (m S : Int) (t : Nat) : List Int := (List.range am.length).map (SH.run am.length (shq am m S, shr am m S) t).1
def shLeft (am : List Int) (m S : Int) : Nat := (m - SH.isum (shq am m S) am.length).toNat
/-- The shares, and the code. -/
def shRes (am : List Int) (m : Int) : List Int × Int :=
  if codeOf am m = 0 then (if wsum am am.length = 0 then (List.replicate am.length 0, 0) else (shTo am m (wsum am am.length) (shLeft am m (wsum am am.length)), 0)) else ([], codeOf am m)
theorem shTo_len (am : List Int) (m S : Int) (t : Nat) : (shTo am m S t).length = am.length := by simp [shTo]
theorem shRes_len (am : List Int) (m : Int) (h : am.length ≤ 1048576) : (shRes am m).1.length ≤ 1048576 := by
  unfold shRes
  split
  · split
    · simp; exact h
    · show (shTo am m _ _).length ≤ _
      rw [shTo_len]
      exact h
  · simp
theorem sh_ok {am : List Int} {m : Int} (h : codeOf am m = 0) : okAll am m = true := by
  unfold codeOf at h
  split at h
  · assumption
  · cases h
theorem wsum_eq {am : List Int} {m : Int} (h : okAll am m = true) : ∀ i, i ≤ am.length → wsum am i = SH.isum (fun j => rd am (j : Int)) i ∧ 0 ≤ wsum am i ∧ wsum am i ≤ 1000000 * (i : Int)
  | 0, _ => ⟨rfl, Int.le_refl _, Int.le_refl _⟩
  | i + 1, hi => by
    obtain ⟨h1, h2, h3⟩ := wsum_eq h i (by omega)
    have h4 := okAll_at h (show i < am.length by omega)
    have h5 := okAll_len h
    have e : wrap64 (wsum am i + rd am (i : Int)) = wsum am i + rd am (i : Int) := by unfold wrap64; omega
    refine ⟨?_, ?_, ?_⟩
    · show wrap64 (wsum am i + rd am (i : Int)) = SH.isum _ i + rd am (i : Int)
      rw [e, h1]
    · show 0 ≤ wrap64 (wsum am i + rd am (i : Int))
      rw [e]
      omega
    · show wrap64 (wsum am i + rd am (i : Int)) ≤ _
      rw [e]
      omega
theorem mul_bd {m x : Int} (h0 : 0 ≤ m) (h1 : m ≤ 1000000) (h2 : 0 ≤ x) (h3 : x ≤ 1000000) : 0 ≤ m * x ∧ m * x ≤ 1000000000000 :=
  ⟨Int.mul_nonneg h0 h2, by have := Int.mul_le_mul h1 h3 h2 (by omega); omega⟩
section
variable {am : List Int} {m S : Int} {A : Option Addr} {c b2 b3 b8 b12 : Nat} {w : World}
set_option maxHeartbeats 2000000 in
theorem shClo1_any (hok : okAll am m = true) (hS : 0 < S) (hS2 : S ≤ 1000000000) {x : Nat} (hx : x < am.length) (h2 : Blk w b2 [.slice A am.length c] 38) (h3 : Blk w b3 [.int .i64 m] 2) (h8 : Blk w b8 [.int .i64 S] 2) (hA : Kd.C (Kd.int .i64) w A am.length am) :
    Calls Try.prog 80 #[.int .i64 (x : Int), .pointer (some ⟨b3, 0, none⟩), .pointer (some ⟨b2, 0, none⟩), .pointer (some ⟨b8, 0, none⟩)] w fun e w' => e = .returned (.int .i64 (shr am m S x)) ∧ ∃ q, w' = w.drewN q := by
  have c2 := h2.cell (i := 0) rfl
  have c3 := h3.cell (i := 0) rfl
  have c8 := h8.cell (i := 0) rfl
  have hb := okAll_m hok
  have ha := okAll_at hok hx
  have hl := okAll_len hok
  obtain ⟨ad, rfl, cx⟩ := Kd.at_int hA (x : Int) (by omega) (by omega)
  have e0 : am.getD x 0 = rd am (x : Int) := by simp [rd]
  rw [Int.toNat_natCast] at cx
  try rw [e0] at cx
  have HR : Hid (shr am m S x = m * rd am (x : Int) % S) := Lib.hid rfl
  have hm := mul_bd hb.1 hb.2 ha.1 ha.2
  clear h2 h3 h8 hA e0 hok
  generalize rd am (x : Int) = z at *
  have w1 : IntKind.i64.wrap (m * z) = m * z := by
    obtain ⟨p, hp⟩ : ∃ p, p = m * z := ⟨_, rfl⟩
    rw [← hp] at hm ⊢
    rw [IntKind.wrap_i64]
    omega
  have ht : Int.tmod (m * z) S = m * z % S := Int.tmod_eq_emod_of_nonneg hm.1
  have hS0 : ¬ (S = 0) := by omega
  have hr0 := Int.emod_nonneg (m * z) hS0
  have hr1 := Int.emod_lt_of_pos (m * z) hS
  have w2 : IntKind.i64.wrap (m * z % S) = m * z % S := by
    obtain ⟨p, hp⟩ : ∃ p, p = m * z % S := ⟨_, rfl⟩
    rw [← hp] at hr0 hr1 ⊢
    rw [IntKind.wrap_i64]
    omega
  clear hm hr0 hr1
  go_enter Try.func80, Try.ntmps80
  go_wp2
  go_quiet (fail)
  go_wp2
  go_ret
  exact ⟨ret_i64 (by rw [HR.out]), _, rfl⟩
end
section
variable {am : List Int} {m S : Int} {A : Option Addr} {c b2 b3 b8 b12 o : Nat} {w0 : World}
theorem shr_bd {am : List Int} {m S : Int} (hS : 0 < S) (x : Nat) : 0 ≤ shr am m S x ∧ shr am m S x < S := ⟨Int.emod_nonneg _ (by omega), Int.emod_lt_of_pos _ hS⟩
theorem sapp2 (a b x : Value) : #[a, b] ++ #[x] = #[a, b, x] := by simp
theorem sapp3 (a x y z : Value) : #[a] ++ #[x, y, z] = #[a, x, y, z] := by simp
set_option maxHeartbeats 2000000 in
theorem shClo2_any (hok : okAll am m = true) (hS : 0 < S) (hS2 : S ≤ 1000000000) {x y : Nat} (hx : x < am.length) (hy : y < am.length) (w : World) (h12 : Blk w b12 [.func (.func 80) #[] #[.pointer (some ⟨b3, 0, none⟩), .pointer (some ⟨b2, 0, none⟩), .pointer (some ⟨b8, 0, none⟩)]] 77) (h2 : Blk w b2 [.slice A am.length c] 38) (h3 : Blk w b3 [.int .i64 m] 2) (h8 : Blk w b8 [.int .i64 S] 2) (hA : Kd.C (Kd.int .i64) w A am.length am) :
    Calls Try.prog 82 #[.int .i64 (x : Int), .int .i64 (y : Int), .pointer (some ⟨b12, 0, none⟩)] w fun e w' => e = .returned (.int .i64 (shr am m S y - shr am m S x)) ∧ ∃ q, w' = w.drewN q := by
  have c12 := h12.cell (i := 0) rfl
  have hcx := fun q => shClo1_any (w := w.drewN q) hok hS hS2 hx h2 h3 h8 (Kd.C_below hA (pw_below_drewN (Below.refl _ _) q))
  have hcy := fun q => shClo1_any (w := w.drewN q) hok hS hS2 hy h2 h3 h8 (Kd.C_below hA (pw_below_drewN (Below.refl _ _) q))
  have hbx := shr_bd (am := am) (m := m) hS x
  have hby := shr_bd (am := am) (m := m) hS y
  clear h12 h2 h3 h8 hA hok
  generalize shr am m S x = rx at *
  generalize shr am m S y = ry at *
  have w1 : IntKind.i64.wrap (ry - rx) = ry - rx := by rw [IntKind.wrap_i64]; omega
  have eg1 := enters_of Try.func80 (by kernel_rfl) rfl
  clear hbx hby
  go_enter Try.func82, Try.ntmps82
  go_wp2
  go_quiet (first
    | (go_at_call_of 80 (Value.int .i64 (x : Int)); exact Calls.quiet_of (hcx _))
    | (go_at_call_of 80 (Value.int .i64 (y : Int)); exact Calls.quiet_of (hcy _))
    | (go_at_fn 80; first | exact Calls.quiet_of (hcy _) | exact Calls.quiet_of (hcx _)))
  go_wp2
  go_ret
  exact ⟨rfl, _, rfl⟩
end
theorem C_kept {am : List Int} {A : Option Addr} {B0 o : Nat} {W w0 w1 : World} (hA : Kd.C (Kd.int .i64) W A am.length am) (hB : Below B0 W w0) (hk : Kept o w0 w1) (ho : B0 ≤ o) (hs : B0 ≤ w0.heap.size) (hB0 : B0 = W.heap.size) : Kd.C (Kd.int .i64) w1 A am.length am := by
  have h := hk.below hB ho hs
  rw [hB0] at h
  exact Kd.C_below hA h
theorem ord_of {w : World} {B0 o n cap : Nat} {ok : Nat → Prop} {L : List Int} (h : Kd.R kI 3 w B0 ok (.slice (some ⟨o, 0, none⟩) n cap) L) (hL : L = (List.range n).map (fun (j : Nat) => (j : Int))) : ∃ rest, Ord w o n rest id := by
  obtain ⟨hv, inner, ho, hr⟩ := h
  have hn : L.length = n := by rw [hL]; simp
  obtain ⟨h1, h2⟩ := ho
  rcases h2 with ⟨h3, -⟩ | ⟨g, cap', cur, h3, h4, h5, h6, h7, h8, h9⟩
  · cases h3
  · injection h3 with a1 a2 a3
    injection a1 with a1
    injection a1 with a1
    subst a1
    refine ⟨cur.toList.drop (n * 1), ?_⟩
    have hi : inner = rowN id n := by
      refine List.ext_getElem? fun i => ?_
      rcases Nat.lt_or_ge i n with hi | hi
      · rw [rowN_get _ hi]
        have h10 := hr.2 i (i : Int) (by rw [hL]; simp [hi])
        try simp only [Nat.mul_one] at h10
        have h11 : (inner.drop i).take 1 = [Value.int .i64 (i : Int)] := by
          have h13 := h10
          simp only [kI, Kd.int, Kd.scalar] at h13
          simpa using h13
        have h12 : ((inner.drop i).take 1)[0]? = some (Value.int .i64 (i : Int)) := by rw [h11]; rfl
        rw [List.getElem?_take_of_lt (by omega), List.getElem?_drop, Nat.add_zero] at h12
        exact h12
      · rw [List.getElem?_eq_none (by rw [h1, hn]; show n * 1 ≤ i; omega), List.getElem?_eq_none (by rw [rowN_len]; exact hi)]
    unfold Ord Blk
    rw [h5]
    have h13 : cur.toList.take (n * 1) = inner := by rw [← h9, hn]; rfl
    have h14 : rowN id n ++ cur.toList.drop (n * 1) = cur.toList := by rw [← hi, ← h13, List.take_append_drop]
    rw [h14]
def iota (n : Nat) : List Int := (List.range n).map (fun (j : Nat) => (j : Int))
theorem iota_len (n : Nat) : (iota n).length = n := by simp [iota]
theorem iota_succ (n : Nat) : iota (n + 1) = iota n ++ [(n : Int)] := by simp [iota, List.range_succ]
/-- The first i shares' whole parts. -/
def part (q : Nat → Int) (n i : Nat) : List Int := (List.range n).map fun j => if j < i then q j else 0
theorem part_len (q : Nat → Int) (n i : Nat) : (part q n i).length = n := by simp [part]
theorem part_zero (q : Nat → Int) (n : Nat) : part q n 0 = List.replicate n 0 := by
  refine List.ext_getElem (by simp [part]) fun i h1 h2 => ?_
  simp [part]
theorem part_full (q : Nat → Int) (n : Nat) : part q n n = (List.range n).map q := by
  refine List.ext_getElem (by simp [part]) fun i h1 h2 => ?_
  have : i < n := by simpa [part] using h1
  simp [part, this]
theorem part_set (q : Nat → Int) {n i : Nat} (h : i < n) : (part q n i).set i (q i) = part q n (i + 1) := by
  refine List.ext_getElem (by simp [part]) fun j h1 h2 => ?_
  have hj : j < n := by simpa [part] using h2
  rw [List.getElem_set]
  by_cases e : i = j
  · subst e
    simp [part]
  · rw [if_neg e]
    simp only [part, List.getElem_map, List.getElem_range]
    by_cases k : j < i
    · rw [if_pos k, if_pos (by omega)]
    · rw [if_neg k, if_neg (by omega)]
theorem map_set (f : Nat → Int) {n i : Nat} (h : i < n) (v : Int) : ((List.range n).map f).set i v = (List.range n).map (SH.up f i v) := by
  refine List.ext_getElem (by simp) fun j h1 h2 => ?_
  rw [List.getElem_set]
  by_cases e : i = j
  · subst e
    simp [SH.up]
  · rw [if_neg e]
    have e2 : ¬ j = i := fun h => e h.symm
    simp [SH.up, e2]
theorem map_rd (f : Nat → Int) {n i : Nat} (h : i < n) : rd ((List.range n).map f) (i : Int) = f i := by simp [rd, h]
theorem run_bd {n : Nat} {q r : Nat → Int} {c : Int} (hq : ∀ i, 0 ≤ q i ∧ q i ≤ c) : ∀ t i, 0 ≤ (SH.run n (q, r) t).1 i ∧ (SH.run n (q, r) t).1 i ≤ c + (t : Int)
  | 0, i => by have := hq i; show 0 ≤ q i ∧ q i ≤ c + ((0 : Nat) : Int); omega
  | t + 1, i => by
    have h1 := run_bd (n := n) (q := q) (r := r) hq t
    have h0 := h1 i
    have h2 := h1 (SH.sel (SH.run n (q, r) t).2 (n - 1))
    clear h1
    show 0 ≤ SH.up _ _ _ i ∧ SH.up _ _ _ i ≤ _
    unfold SH.up
    split
    · rename_i e
      rw [← e]
      omega
    · omega
theorem wsum_small {L : List Int} (hl : L.length ≤ 100) (h : ∀ i, i < L.length → 0 ≤ rd L (i : Int) ∧ rd L (i : Int) ≤ 1000000000000) : ∀ i, i ≤ L.length → wsum L i = SH.isum (fun j => rd L (j : Int)) i ∧ 0 ≤ wsum L i ∧ wsum L i ≤ 1000000000000 * (i : Int)
  | 0, _ => ⟨rfl, Int.le_refl _, Int.le_refl _⟩
  | i + 1, hi => by
    obtain ⟨h1, h2, h3⟩ := wsum_small hl h i (by omega)
    have h4 := h i (by omega)
    have e : wrap64 (wsum L i + rd L (i : Int)) = wsum L i + rd L (i : Int) := by unfold wrap64; omega
    refine ⟨?_, ?_, ?_⟩
    · show wrap64 (wsum L i + rd L (i : Int)) = SH.isum _ i + rd L (i : Int)
      rw [e, h1]
    · show 0 ≤ wrap64 (wsum L i + rd L (i : Int))
      rw [e]
      omega
    · show wrap64 (wsum L i + rd L (i : Int)) ≤ _
      rw [e]
      omega
theorem shq_bd {am : List Int} {m S : Int} (hok : okAll am m = true) (hS : 0 < S) {i : Nat} (hi : i < am.length) : 0 ≤ shq am m S i ∧ shq am m S i ≤ 1000000000000 := by
  have ha := okAll_at hok hi
  have hm := okAll_m hok
  have hmz := mul_bd hm.1 hm.2 ha.1 ha.2
  unfold shq
  have hd0 : 0 ≤ m * rd am (i : Int) / S := Int.ediv_nonneg hmz.1 (by omega)
  have hd1 : m * rd am (i : Int) / S ≤ m * rd am (i : Int) := Int.ediv_le_self _ hmz.1
  omega
theorem shq_all {am : List Int} {m S : Int} (hok : okAll am m = true) (hS : 0 < S) (i : Nat) : 0 ≤ shq am m S i ∧ shq am m S i ≤ 1000000000000 := by
  rcases Nat.lt_or_ge i am.length with h | h
  · exact shq_bd hok hS h
  · have e : rd am (i : Int) = 0 := by simp [rd, List.getD_eq_getElem?_getD, List.getElem?_eq_none h]
    unfold shq
    rw [e, Int.mul_zero, Int.zero_ediv]
    omega
theorem shTo_next {am : List Int} {m S : Int} {D : Nat → Nat} {t : Nat} (hS : 0 < S) (hD : SM.Sim D id 0 am.length) (hR : SM.Srt (shr am m S) D 0 am.length) (ht : t < am.length) :
    (shTo am m S t).set (D t) ((SH.run am.length (shq am m S, shr am m S) t).1 (D t) + 1) = shTo am m S (t + 1) := by
  unfold shTo
  rw [map_set _ (hD.onto.2.2 t ht), SH.run_next hD hR (fun i _ => (shr_bd hS i).1) ht]
theorem shTo_rd {am : List Int} {m S : Int} (t : Nat) {i : Nat} (h : i < am.length) : rd (shTo am m S t) (i : Int) = (SH.run am.length (shq am m S, shr am m S) t).1 i := map_rd _ h
theorem wsum_part {am : List Int} {m S : Int} (hok : okAll am m = true) (hS : 0 < S) : wsum (part (shq am m S) am.length am.length) am.length = SH.isum (shq am m S) am.length := by
  have e : ∀ j, j < am.length → rd (part (shq am m S) am.length am.length) (j : Int) = shq am m S j := fun j hj => by rw [part_full, map_rd _ hj]
  have h := (wsum_small (L := part (shq am m S) am.length am.length) (by rw [part_len]; exact okAll_len hok) (fun i hi => by rw [part_len] at hi; rw [e i hi]; exact shq_bd hok hS hi) am.length (by rw [part_len]; exact Nat.le_refl _)).1
  rw [h]
  exact SH.isum_congr _ e
set_option maxRecDepth 100000 in
set_option maxHeartbeats 16000000 in
theorem iShares_any (am : List Int) (m : Int) (hl : am.length ≤ 1048576) (A : Option Addr) (c : Nat) (w : World) (hA : Kd.C (Kd.int .i64) w A am.length am) (hc : am.length ≤ c) :
    Calls Try.prog 43 #[.slice A am.length c, .int .i64 m] w fun e w' => ∃ v : Value, e = .returned (.tuple #[v, .int .i64 (shRes am m).2]) ∧ Made w w' (shRes am m).1 v ∧ Below w.heap.size w w' := by
  have HA := Lib.hid hA
  have hmf : ∀ (fn : Fn) (first cap : Array Value) (w : World), (Instr.makeFunc fn first cap).run Try.prog w = .ok (.func fn first cap) w := fun _ _ _ _ => rfl
  obtain ⟨kc, hkc⟩ := code_i am m hl
  have HCODE := Lib.hid (fun (W : World) (hW : Kd.C (Kd.int .i64) W A am.length am) => impl_sharesCode.calls kc A c am m _ W hW hc (hkc kc (Nat.le_refl _)))
  obtain ⟨kt, hkt⟩ := total am hl
  have HTOT0 := Lib.hid (fun (W : World) (hW : Kd.C (Kd.int .i64) W A am.length am) => impl_total.calls kt A c am _ W hW hc (hkt kt (Nat.le_refl _)))
  clear hA hkc hkt
  go_enter Try.func43, Try.ntmps43
  go_upto_region 1 with (fail)
  obtain ⟨W, hW⟩ : ∃ W, W = (w.alloc (.cells [Value.slice A am.length c].toArray 38)).alloc (.cells [Value.int .i64 m].toArray 2) := ⟨_, rfl⟩
  have HC := Lib.hid (boxed2 w [.slice A am.length c] [.int .i64 m] 38 2)
  rw [← hW] at HC ⊢
  clear hW
  have k2 := (HC.out.blk (w.heap.size, [.slice A am.length c], 38) (by simp)).cell (i := 0) rfl
  have k3 := (HC.out.blk (w.heap.size + 1, [.int .i64 m], 2) (by simp)).cell (i := 0) rfl
  by_cases hq : codeOf am m = 0
  case neg =>
    have HR : Hid (shRes am m = ([], codeOf am m)) := Lib.hid (by unfold shRes; rw [if_neg hq])
    have hq' : (codeOf am m != 0) = true := by simpa using hq
    go_wp2_with (first
      | (go_at_call 66; refine (HCODE.out _ (Kd.C_below HA.out HC.out.below)).mono ?_; rintro e w2 ⟨rfl, hb⟩; have HC2 := Lib.hid (HC.out.step hb); clear hb))
    go_ret2
    exact ⟨.slice none 0 0, by rw [HR.out]; rfl, by rw [HR.out]; exact Kd.R_nil _ _ _ _ _, HC2.out.below⟩
  case pos =>
  have hok := sh_ok hq
  obtain ⟨hw1, hw2, hw3⟩ := wsum_eq hok am.length (Nat.le_refl _)
  have hl100 := okAll_len hok
  have HRZ : Hid (wsum am am.length = 0 → shRes am m = (List.replicate am.length 0, 0)) := Lib.hid (fun h => by unfold shRes; rw [if_pos hq, if_pos h])
  have HRS : Hid (wsum am am.length ≠ 0 → shRes am m = (shTo am m (wsum am am.length) (shLeft am m (wsum am am.length)), 0)) := Lib.hid (fun h => by unfold shRes; rw [if_pos hq, if_neg h])
  have HQ := Lib.hid hq
  have HOK := Lib.hid hok
  clear hq hok
  obtain ⟨S, hS⟩ : ∃ S, S = wsum am am.length := ⟨_, rfl⟩
  rw [← hS] at hw1 hw2 hw3 HRZ HRS HTOT0
  have HW1 := Lib.hid hw1
  clear hw1 hS
  have hs9 : S ≤ 1000000000 := by omega
  go_upto_region 4 with (first
    | (go_at_call 66; refine (HCODE.out _ (Kd.C_below HA.out HC.out.below)).mono ?_; rintro e w2 ⟨rfl, hb⟩; rw [HQ.out]; have HC2 := Lib.hid (HC.out.step hb); clear hb))
  clear k2 k3
  have hg2 : w.heap.size + 1 < w2.heap.size := HC2.out.lt (w.heap.size + 1, [.int .i64 m], 2) (by simp)
  obtain ⟨W2, hW2⟩ : ∃ x, x = w2 := ⟨_, rfl⟩
  rw [← hW2] at HC2 hg2 ⊢
  clear hW2
  obtain ⟨W, hWW⟩ : ∃ x, x = W2 := ⟨_, rfl⟩
  rw [← hWW] at HC2 hg2 ⊢
  clear hWW
  obtain ⟨B0, hB0⟩ : ∃ g, g = W.heap.size := ⟨_, rfl⟩
  have HB0 := Lib.hid hB0
  clear hB0
  have HTOT : Hid (∀ wd, Below B0 W wd → Calls Try.prog 64 #[.slice A am.length c] wd fun e w' => e = .returned (.int .i64 S) ∧ Below wd.heap.size wd w') := Lib.hid (fun wd hb => (HTOT0.out wd (Kd.C_below (Kd.C_below HA.out HC2.out.below) (by rw [HB0.out] at hb; exact hb))).mono (fun e w' h => ⟨h.1, h.2.below⟩))
  refine la_start (S := fun w' => Below B0 W w') (n := 8) #[false, false, false, false, false, false, false, false] (by kernel_rfl) (by kernel_rfl) (below_drewN (Below.refl _ _) 1) (fun _ _ _ _ hd h => ⟨hd.symm.trans h.1, h.2⟩) (fun hPB => ?_)
  obtain ⟨wd, hwd⟩ : ∃ u, u = { W with drawn := W.drawn + 1 } := ⟨_, rfl⟩
  have hF0 : Below B0 W wd := by rw [hwd]; exact below_drewN (Below.refl _ _) 1
  rw [← hwd]
  clear hwd
  have hBt : ∀ w1, Below B0 W w1 → w1.cell? ⟨w.heap.size, 0, none⟩ = some (.slice A am.length c) := fun w1 h1 => ((HC2.out.blk (w.heap.size, [.slice A am.length c], 38) (by simp)).below h1 (by rw [HB0.out]; simp only; omega)).cell rfl
  refine la_take (i := 0) #[true, false, false, false, false, false, false, false] (some 21) rfl rfl (by kernel_rfl) hPB rfl (.slice A am.length c) (fun w1 h1 => by have h := hBt w1 h1; first | (go_simp; done) | (go_simp; rfl)) hF0 ?_
  simp only [Act.put, List.setIfInBounds_toArray, List.set_cons_zero, List.set_cons_succ]
  refine la_free (i := 1) #[true, true, false, false, false, false, false, false] (some 22) rfl rfl (by kernel_rfl) hPB rfl (.int .i64 (am.length : Int)) (fun w1 => by first | (go_simp; done) | (go_simp; rfl)) ?_
  simp only [Act.put, List.setIfInBounds_toArray, List.set_cons_zero, List.set_cons_succ]
  refine la_take (i := 3) #[true, true, false, true, false, false, false, false] (some 24) rfl rfl (by kernel_rfl) hPB rfl (.slice A am.length c) (fun w1 h1 => by have h := hBt w1 h1; first | (go_simp; done) | (go_simp; rfl)) hF0 ?_
  simp only [Act.put, List.setIfInBounds_toArray, List.set_cons_zero, List.set_cons_succ]
  obtain ⟨vo, s8⟩ : Value × Nat := ⟨.map none, 0⟩
  refine join_ (σ := Value × Nat) 2 #[true, true, true, true, true, true, false, false] (fun s => [(23, (s.1)), (25, .int .i64 S), (8, .pointer (some ⟨(s.2), 0, none⟩))]) (fun s w' => (Below B0 W w') ∧ (Kd.R kI 2 w' B0 (fun k => some k = (s.1).ownBlock) (s.1) (List.replicate am.length 0)) ∧ (Blk w' (s.2) [.int .i64 0] 2) ∧ (B0 ≤ (s.2)) ∧ (some (s.2) ≠ (s.1).ownBlock)) ?_ ?_
  · rintro ⟨vo, s8⟩ wd ⟨hF0, hF1, hF2, hF3, hF4⟩
    simp only [putAll, Act.put, List.setIfInBounds_toArray, List.set_cons_zero, List.set_cons_succ]
    refine la_assign (i := 6) #[true, true, true, true, true, true, true, false] (some 7) rfl rfl (by kernel_rfl) rfl (.tmp 23) rfl vo (by kernel_rfl) hF0 ?_
    simp only [Act.put, List.setIfInBounds_toArray, List.set_cons_zero, List.set_cons_succ]
    have hc8 := hF2.cell (i := 0) rfl
    have hf8 := hF2.free 0
    refine la_next (i := 7) #[true, true, true, true, true, true, true, true] rfl (by kernel_rfl) rfl ?_
    refine ev_skip none rfl (wd.setCell ⟨s8, 0, none⟩ (.int .i64 S)) (by first | (go_simp; done) | (go_simp; rfl)) (below_setCell hF0 hF3 0 _) ?_
    try simp only [Act.put, List.setIfInBounds_toArray, List.set_cons_zero, List.set_cons_succ]
    have HS4 : Hid (Blk (wd.setCell ⟨s8, 0, none⟩ (.int .i64 S)) s8 [.int .i64 S] 2) := Lib.hid (hF2.set 0 (.int .i64 S))
    have HR4 : Hid (Kd.R kI 2 (wd.setCell ⟨s8, 0, none⟩ (.int .i64 S)) B0 (fun k => some k = vo.ownBlock) vo (List.replicate am.length 0)) := Lib.hid (Kd.R_far hF1 (p := ⟨s8, 0, none⟩) (fun k hk e => hF4 (by rw [← hk]; exact congrArg some e.symm)) _)
    have HB4 : Hid (Below B0 W (wd.setCell ⟨s8, 0, none⟩ (.int .i64 S))) := Lib.hid (below_setCell hF0 hF3 0 _)
    have h8v : some s8 ≠ vo.ownBlock := hF4
    have h8b : B0 ≤ s8 := hF3
    generalize wd.setCell ⟨s8, 0, none⟩ (.int .i64 S) = w4 at *
    clear hc8 hf8 hF0 hF1 hF2 hF3 hF4
    refine la_done (by kernel_rfl) ?_
    try simp only [Act.put, List.setIfInBounds_toArray, List.set_cons_zero, List.set_cons_succ]
    have c8 := HS4.out.cell (i := 0) rfl
    by_cases hS0 : S = 0
    · have HR := Lib.hid (HRZ.out hS0)
      rw [hS0] at c8
      clear hS0
      go_wp2
      go_ret2
      exact ⟨vo, by rw [HR.out]; rfl, by rw [HR.out]; exact Kd.R_lower (Kd.R_mono HR4.out (fun _ _ => trivial)) (by rw [HB0.out]; exact HC2.out.below.size), (HC2.out.below.trans ((by have h := HB4.out; rw [HB0.out] at h; exact h : Below W.heap.size W w4).mono HC2.out.below.size))⟩
    · have HR := Lib.hid (HRS.out hS0)
      have hS1 : 0 < S := by omega
      have hSn : (S == 0) = false := by simpa using hS0
      have hn1 : 0 < am.length := by
        rcases Nat.eq_zero_or_pos am.length with h | h
        · have := HW1.out
          rw [h] at this
          exact absurd this hS0
        · exact h
      clear hS0
      obtain ⟨g, cap, hv, hgB, hgw, -⟩ := Kd.R_form HR4.out (by rw [List.length_replicate]; exact hn1)
      rw [List.length_replicate] at hv
      subst hv
      have h8g : s8 ≠ g := fun e => h8v (by rw [e]; rfl)
      have h8w := HS4.out.lt
      have HR5 : Hid (Kd.R kI 2 w4 B0 (fun k => k = g) (.slice (some ⟨g, 0, none⟩) am.length cap) (part (shq am m S) am.length 0)) := Lib.hid (by rw [part_zero]; exact Kd.R_mono HR4.out (fun k hk => by injection hk))
      go_upto_region 8 with (first
        | ((with_reducible refine gate_dst (N := 29) rfl ?_); refine Kd.R_lit kI (w0 := W) B0 3 ?hg (N := 29) ?hd (xs := ([] : List Int)) (inner := []) (ok := fun k => k ≠ g ∧ k ≠ s8) (okp := fun _ => False) ?hr ?hp (fun _ hk => hk.elim) ⟨Nat.ne_of_gt hgw, Nat.ne_of_gt h8w⟩ HB4.out (Nat.le_trans h8b (Nat.le_of_lt h8w)) (by simp) ?_; (case hd => rfl); (case hg => rfl); (case hr => first | (go_simp; done) | (go_simp; rfl)); (case hp => exact (Reps.none _ _)); intro v1 w1 ho1 hb1 hg1 hn1'; have HR9 := Lib.hid ho1; have HB9 := Lib.hid hb1; have HO9 := Lib.hid (Kd.R_below HR5.out (below_grown_none hg1)); have HS9 := Lib.hid (HS4.out.below (below_grown_none hg1) h8w); clear ho1 hb1 hg1 hn1'))
      clear c8 HR4 HS4 HB4 HR5
      have k2 : w1.cell? ⟨w.heap.size, 0, none⟩ = some (.slice A am.length c) := hBt w1 HB9.out
      go_wp2
      go_loopw [9, 32] (fun u v wr => ∃ i : Nat, i ≤ am.length ∧ v = .int .i64 (i : Int) ∧ Hid (Kd.R kI 2 wr B0 (fun k => k = g) (.slice (some ⟨g, 0, none⟩) am.length cap) (part (shq am m S) am.length i)) ∧ Hid (Kd.R kI 3 wr B0 (fun k => k ≠ g ∧ k ≠ s8) u (iota i)) ∧ Hid (Blk wr s8 [.int .i64 S] 2) ∧ Hid (Below B0 W wr)) (fun _ v _ => am.length - (intOf v).toNat)
      case atStart => exact ⟨0, by omega, rfl, HO9, HR9, HS9, HB9⟩
      case round =>
        clear HO9 HR9 HS9 HB9 k2
        obtain ⟨i, hi, rfl, HO, HU, HS, HB⟩ := hrel
        have hb' : Below W.heap.size W wr := by have h := HB.out; rw [HB0.out] at h; exact h
        have HAw := Lib.hid (Kd.C_below (Kd.C_below HA.out HC2.out.below) hb')
        have HCw := Lib.hid (HC2.out.step hb')
        clear hb'
        have c8 := HS.out.cell (i := 0) rfl
        have k3 := (HCw.out.blk (w.heap.size + 1, [.int .i64 m], 2) (by simp)).cell (i := 0) rfl
        have hsz : B0 ≤ wr.heap.size := by rw [HB0.out]; exact HB.out.size
        by_cases hlt : i < am.length
        · obtain ⟨ad, rfl, ca⟩ := Kd.at_int HAw.out (i : Int) (by omega) (by omega)
          have e0 : am.getD i 0 = rd am (i : Int) := by simp [rd]
          rw [Int.toNat_natCast] at ca
          try rw [e0] at ca
          have ha := okAll_at HOK.out hlt
          have hm := okAll_m HOK.out
          have hmz := mul_bd hm.1 hm.2 ha.1 ha.2
          have HQI : Hid (shq am m S i = m * rd am (i : Int) / S) := Lib.hid rfl
          obtain ⟨co, fo⟩ := Kd.R_celln 0 HO.out (i : Int) (by omega) (by omega)
          rw [Int.toNat_natCast] at co fo
          have HP := Lib.hid (part_set (shq am m S) hlt)
          generalize rd am (i : Int) = z at *
          have w1' : IntKind.i64.wrap (m * z) = m * z := by
            obtain ⟨p, hp⟩ : ∃ p, p = m * z := ⟨_, rfl⟩
            rw [← hp] at hmz ⊢
            rw [IntKind.wrap_i64]
            omega
          have hd0 : 0 ≤ m * z / S := Int.ediv_nonneg hmz.1 (by omega)
          have hd1 : m * z / S ≤ m * z := Int.ediv_le_self _ hmz.1
          have ht : Int.tdiv (m * z) S = m * z / S := Int.tdiv_eq_ediv_of_nonneg hmz.1
          have hS0 : ¬ (S = 0) := by omega
          have w2' : IntKind.i64.wrap (m * z / S) = m * z / S := by
            obtain ⟨p, hp⟩ : ∃ p, p = m * z / S := ⟨_, rfl⟩
            obtain ⟨p2, hp2⟩ : ∃ p, p = m * z := ⟨_, rfl⟩
            rw [← hp, ← hp2] at hd1
            rw [← hp] at hd0 ⊢
            rw [← hp2] at hmz
            rw [IntKind.wrap_i64]
            omega
          have HPO := Lib.hid (Kd.R_putn HO.out (i : Int) (m * z / S))
          have HPU := Lib.hid (Kd.R_far HU.out (p := ⟨g, i, none⟩) (fun _ hk => hk.1) (Value.int .i64 (m * z / S)))
          have HPS := Lib.hid (HS.out.setOther (k := g) h8g i (Value.int .i64 (m * z / S)))
          have HPB := Lib.hid (below_setCell HB.out hgB i (Value.int .i64 (m * z / S)))
          clear hmz hd0 hd1 ha hm e0
          go_upto_region 12 with (fail)
          refine name_ofS (fun w' => Kd.R kI 2 w' B0 (fun k => k = g) (.slice (some ⟨g, 0, none⟩) am.length cap) (part (shq am m S) am.length (i + 1)) ∧ Kd.R kI 3 w' B0 (fun k => k ≠ g ∧ k ≠ s8) _ (iota i) ∧ Blk w' s8 [.int .i64 S] 2 ∧ Below B0 W w') ⟨by rw [← HP.out, HQI.out]; have h := HPO.out; rw [Int.toNat_natCast] at h; exact h, HPU.out, HPS.out, HPB.out⟩ ?_
          rintro wz ⟨k1, k4, k5, k6⟩
          have HOz := Lib.hid k1
          have HUz := Lib.hid k4
          have HSz := Lib.hid k5
          have HBz := Lib.hid k6
          clear k1 k4 k5 k6 co fo ca c8 k3 HPO HPU HPS HPB
          have hgz : g < wz.heap.size := Kd.R_lt HOz.out g rfl
          go_wp2_with (first
            | ((with_reducible refine gate_builtin (b := .append) (xs := #[.tmp 45, .tmp 47]) rfl ?_); at_builtin; go_loud (refine Kd.R_append kI (w0 := W) B0 rfl (.tmp 45) (.tmp 47) 76 3 (.int .i64 0) 8 rfl Try.underlying76 infoQ_int rfl (by decide) (by omega) _ (iota i) ((i : Int)) [.int .i64 ((i : Int))] (fun k => k ≠ g ∧ k ≠ s8) (fun _ => False) rfl rfl ?aP (fun _ hk => hk.elim) ?aF ?aO ?aB ?aS ?aL ?_; (case aP => exact rfl); (case aO => exact HUz.out); (case aB => exact HBz.out); (case aF => exact fun k hk => ⟨Nat.ne_of_gt (Nat.lt_of_lt_of_le hgz hk), Nat.ne_of_gt (Nat.lt_of_lt_of_le HSz.out.lt hk)⟩); (case aS => exact Nat.le_trans hgB (Nat.le_of_lt hgz)); (case aL => have := iota_len i; omega); intro v1 w1 ho1 hb1 hg1 hat1; rw [← iota_succ] at ho1; have HU1 := Lib.hid ho1; have HB1 := Lib.hid hb1; have HO1 := Lib.hid (Kd.R_grown HOz.out hg1 (fun k hk e => (Kd.R_away HUz.out (fun _ hk => hk.1)) (by rw [← hk]; exact e))); have HS1 : Hid (Blk w1 s8 [.int .i64 S] 2) := Lib.hid ((hg1.block s8 HSz.out.lt (Kd.R_away HUz.out (fun _ hk => hk.2))).trans HSz.out); clear ho1 hb1 hg1 hat1)))
          go_roundw
          case rel => exact ⟨i + 1, by omega, by go_num, HO1, HU1, HS1, HB1⟩
          case measure => simp only [intOf]; omega
        · obtain rfl : i = am.length := by omega
          obtain ⟨o, capo, hu, hoB, how, -⟩ := Kd.R_form HU.out (by rw [iota_len]; exact hn1)
          rw [iota_len] at hu
          subst hu
          have hcap := (Kd.R_reads' HU.out).2.1
          obtain ⟨rest, hord⟩ := ord_of HU.out rfl
          have HORD := Lib.hid hord
          obtain ⟨hog, hos⟩ : o ≠ g ∧ o ≠ s8 := HU.out.1 o rfl
          have h8w' := HS.out.lt
          have hgw' : g < wr.heap.size := Kd.R_lt HO.out g rfl
          have hn100 : am.length ≤ 100 := hl100
          clear hord c8 k3 HAw
          have hst : ∀ (a : Addr) (fn : Fn) (first cap : Array Value) (w : World), (store a (.func fn first cap)).run Try.prog w = stored Try.prog w a (.func fn first cap) .plain := fun a fn first cap w => run_store Try.prog w a _ _ rfl
          have cn := (Blk.new' wr [Value.nilFunc] 77).cell (i := 0) rfl
          have fn := (Blk.new' wr [Value.nilFunc] 77).free 0
          go_upto_region 15 with (fail)
          clear cn fn hst
          obtain ⟨b12, hb12⟩ : ∃ b, b = wr.heap.size := ⟨_, rfl⟩
          refine name_ofS (fun w' => Below wr.heap.size wr w' ∧ Blk w' wr.heap.size [.func (.func 80) #[] #[.pointer (some ⟨w.heap.size + 1, 0, none⟩), .pointer (some ⟨w.heap.size, 0, none⟩), .pointer (some ⟨s8, 0, none⟩)]] 77) ⟨by first | exact (Below.refl _ _).alloc (Nat.le_refl _) _ | exact below_setCell ((Below.refl _ _).alloc (Nat.le_refl _) _) (Nat.le_refl _) 0 _, by first | exact Blk.new' _ _ _ | exact (Blk.new' _ _ _).set 0 _⟩ ?_
          rintro w15 ⟨k1, k4⟩
          rw [← hb12] at k4 ⊢
          have H12 := Lib.hid k4
          have HO15 := Lib.hid (Kd.R_below HO.out k1)
          have HS15 := Lib.hid (HS.out.below k1 h8w')
          have HB15 := Lib.hid (below_then HB.out hsz k1)
          have HD15 := Lib.hid (HORD.out.below k1)
          have hsz15 : B0 ≤ w15.heap.size := Nat.le_trans hsz k1.size
          have ho12 : b12 ≠ o := by rw [hb12]; omega
          have HC15 := Lib.hid (HCw.out.step k1)
          clear k1 k4 HO HU HS HB HORD hb12
          have hsort := sortStable_any (cap := capo) (caps := #[.pointer (some ⟨b12, 0, none⟩)]) (r := shr am m S) (rest := rest) (w0 := w15) (show am.length ≤ 1000 by omega) (fun w1 hk x y hx hy => by
            rw [sapp2]
            exact shClo2_any HOK.out hS1 hs9 hx hy w1 (hk.blk H12.out ho12) (hk.blk (HC15.out.blk (w.heap.size, [.slice A am.length c], 38) (by simp)) (by have := HB0.out; omega)) (hk.blk (HC15.out.blk (w.heap.size + 1, [.int .i64 m], 2) (by simp)) (by have := HB0.out; omega)) (hk.blk HS15.out (fun e => hos e.symm)) (C_kept (Kd.C_below HA.out HC2.out.below) HB15.out hk hoB hsz15 HB0.out)) (enters_of Try.func82 (by kernel_rfl) rfl) id w15 (Kept.refl _ _) HD15.out (fun i hi => hi) (fun i j hij _ _ => hij)
          go_upto_region 16 with (go_at_call 81; refine hsort.mono ?_; rintro e w16 ⟨rfl, k1, D, k4, k5, k6⟩; have HK16 := Lib.hid k1; have HSIM := Lib.hid k4; have HSRT := Lib.hid k5; have HD16 := Lib.hid k6; clear k1 k4 k5 k6)
          have HO16 := Lib.hid (Kd.R_step HO15.out (fun k hk hlt => HK16.out.block k hlt (by rw [hk]; exact fun e => hog e.symm)))
          have HB16 := Lib.hid (HK16.out.below HB15.out hoB hsz15)
          have HC16 : Hid (Blk w16 (w.heap.size + 1) [.int .i64 m] 2) := Lib.hid (HK16.out.blk (HC15.out.blk (w.heap.size + 1, [.int .i64 m], 2) (by simp)) (by have := HB0.out; omega))
          have k3 := HC16.out.cell (i := 0) rfl
          obtain ⟨hlf0, hlf1, -⟩ := SH.left_bound (a := fun j => rd am (j : Int)) hS1 HW1.out.symm (okAll_m HOK.out).1 (fun i hi => (okAll_at HOK.out hi).1)
          have HLF : Hid (((shLeft am m S : Nat) : Int) = m - SH.isum (shq am m S) am.length) := Lib.hid (by unfold shLeft; exact Int.toNat_of_nonneg hlf0)
          have hlfn : shLeft am m S ≤ am.length := by have h := HLF.out; have h2 : m - SH.isum (shq am m S) am.length ≤ (am.length : Int) := hlf1; omega
          have HWS := Lib.hid (wsum_part (am := am) HOK.out hS1)
          obtain ⟨kt2, hkt2⟩ := total (part (shq am m S) am.length am.length) (by rw [part_len]; omega)
          have htot := fun q => impl_total.calls kt2 (some ⟨g, 0, none⟩) cap (part (shq am m S) am.length am.length) _ (w16.drewN q) (Kd.C_below (Kd.R_reads' HO16.out).2.2 (pw_below_drewN (Below.refl _ _) q)) (by rw [part_len]; exact (Kd.R_reads' HO16.out).2.1) (hkt2 kt2 (Nat.le_refl _))
          rw [part_len, HWS.out] at htot
          clear hkt2 hlf0 hlf1 hsort
          have hwl : IntKind.i64.wrap (m - SH.isum (shq am m S) am.length) = ((shLeft am m S : Nat) : Int) := by rw [← HLF.out, IntKind.wrap_i64]; omega
          have hlc : shLeft am m S ≤ capo := by omega
          have hlw : IntKind.i64.wrap (m - SH.isum (shq am m S) am.length) = ((shLeft am m S : Nat) : Int) := hwl
          clear hwl
          obtain ⟨lf, hlf⟩ : ∃ l, l = shLeft am m S := ⟨_, rfl⟩
          rw [← hlf] at HR hlfn hlw hlc
          clear HLF HWS hlf
          go_wp2
          go_quiet (first | (go_at_call 64; exact Calls.quiet_of ((htot _).mono fun _ _ h => ⟨h.1, h.2.1⟩)))
          have HO17 : Hid (Kd.R kI 2 (w16.drewN nq) B0 (fun k => k = g) (.slice (some ⟨g, 0, none⟩) am.length cap) (shTo am m S 0)) := Lib.hid (by have h := Kd.R_below HO16.out (pw_below_drewN (Below.refl _ _) nq); rw [part_full] at h; exact h)
          have HB17 := Lib.hid (pw_below_drewN HB16.out nq)
          have HD17 := Lib.hid (HD16.out.drewN nq)
          clear HO16 HB16 HD16 HK16 HC16 HO15 HS15 HB15 HD15 HC15 H12 htot k3 hlw
          go_wp2
          go_loopw [61] (fun v wr => ∃ t : Nat, t ≤ lf ∧ v = .int .i64 (t : Int) ∧ Hid (Kd.R kI 2 wr B0 (fun k => k = g) (.slice (some ⟨g, 0, none⟩) am.length cap) (shTo am m S t)) ∧ Hid (Ord wr o am.length rest D) ∧ Hid (Below B0 W wr)) (fun v _ => lf - (intOf v).toNat)
          case atStart => exact ⟨0, by omega, rfl, HO17, HD17, HB17⟩
          case round =>
            clear HO17 HD17 HB17
            obtain ⟨t, ht, rfl, HO, HD, HB⟩ := hrel
            by_cases hlt : t < lf
            · have htn : t < am.length := by omega
              have cD := HD.out.cell htn
              have hDt : D t < am.length := HSIM.out.onto.2.2 t htn
              obtain ⟨co, fo⟩ := Kd.R_celln 0 HO.out (D t : Int) (by omega) (by omega)
              rw [Int.toNat_natCast] at co fo
              rw [show rdOf 0 (shTo am m S t) (D t : Int) = rd (shTo am m S t) (D t : Int) from rfl, shTo_rd t hDt] at co
              have hbd := run_bd (n := am.length) (q := shq am m S) (r := shr am m S) (c := 1000000000000) (shq_all HOK.out hS1) t (D t)
              have HP := Lib.hid (shTo_next (t := t) hS1 HSIM.out HSRT.out htn)
              generalize (SH.run am.length (shq am m S, shr am m S) t).1 (D t) = z at *
              have hw1 : IntKind.i64.wrap (z + 1) = z + 1 := by rw [IntKind.wrap_i64]; omega
              have HPO := Lib.hid (Kd.R_putn HO.out (D t : Int) (z + 1))
              have HPD := Lib.hid (HD.out.blk.setOther (k := g) hog (D t) (Value.int .i64 (z + 1)))
              have HPB := Lib.hid (below_setCell HB.out hgB (D t) (Value.int .i64 (z + 1)))
              clear hbd
              go_wp2
              go_roundw
              case rel => exact ⟨t + 1, by omega, by go_num, Lib.hid (by have h := HPO.out; rw [Int.toNat_natCast, HP.out] at h; exact h), Lib.hid HPD.out, HPB⟩
              case measure => simp only [intOf]; omega
            · obtain rfl : t = lf := by omega
              go_wp2
              go_ret2
              exact ⟨.slice (some ⟨g, 0, none⟩) am.length cap, by rw [HR.out]; rfl, by rw [HR.out]; exact Kd.R_lower (Kd.R_mono HO.out (fun _ _ => trivial)) (by rw [HB0.out]; exact HC2.out.below.size), (HC2.out.below.trans ((by have h := HB.out; rw [HB0.out] at h; exact h : Below W.heap.size W wr).mono HC2.out.below.size))⟩
  intro NMTV
  refine join_ (σ := Value × Nat) 3 #[true, true, true, true, true, false, false, false] (fun s => [(23, (s.1)), (25, .int .i64 S)]) (fun s w' => (Below B0 W w') ∧ (Kd.R kI 2 w' B0 (fun k => some k = (s.1).ownBlock) (s.1) (List.replicate am.length 0))) ?_ ?_
  · rintro ⟨vo, s8⟩ wd ⟨hF0, hF1⟩
    simp only [putAll, Act.put, List.setIfInBounds_toArray, List.set_cons_zero, List.set_cons_succ]
    refine la_next (i := 5) #[true, true, true, true, true, true, false, false] rfl (by kernel_rfl) rfl ?_
    · have hgW : B0 ≤ wd.heap.size := Nat.le_trans (Nat.le_of_eq HB0.out) (by have := hF0.size; exact this)
      have hb : Below wd.heap.size wd (wd.alloc (.cells [Value.int .i64 0].toArray 2)) := (Below.refl _ _).alloc (Nat.le_refl _) _
      refine ev_value (some 8) rfl _ (wd.alloc (.cells [Value.int .i64 0].toArray 2)) (run_alloc1 rfl wd (zeroI64 _) rfl) (below_then hF0 hgW hb) ?_
      exact norm_ (by simp only [putAll, Act.put, List.setIfInBounds_toArray, List.set_cons_zero, List.set_cons_succ]) (NMTV (vo, wd.heap.size) _ ⟨(below_then hF0 hgW hb), (Kd.R_below hF1 hb), (Blk.new' _ _ _), hgW, (fun e => Nat.lt_irrefl _ (Kd.R_lt hF1 _ e.symm))⟩)
  intro NMT
  refine join_ (σ := Value × Nat) 3 #[true, true, true, true, false, true, false, false] (fun s => [(23, (s.1)), (8, .pointer (some ⟨(s.2), 0, none⟩))]) (fun s w' => (Below B0 W w') ∧ (Kd.R kI 2 w' B0 (fun k => some k = (s.1).ownBlock) (s.1) (List.replicate am.length 0)) ∧ (Blk w' (s.2) [.int .i64 0] 2) ∧ (B0 ≤ (s.2)) ∧ (some (s.2) ≠ (s.1).ownBlock)) ?_ ?_
  · rintro ⟨vo, s8⟩ wd ⟨hF0, hF1, hF2, hF3, hF4⟩
    simp only [putAll, Act.put, List.setIfInBounds_toArray, List.set_cons_zero, List.set_cons_succ]
    refine la_next (i := 4) #[true, true, true, true, true, true, false, false] rfl (by kernel_rfl) rfl ?_
    · have hgW : B0 ≤ wd.heap.size := Nat.le_trans (Nat.le_of_eq HB0.out) (by have := hF0.size; exact this)
      refine ev_call (some 25) rfl Try.func64 (by kernel_rfl) rfl #[.slice A am.length c] rfl (by simp only [List.map_toArray, List.map_cons, List.map_nil]; kernel_rfl) ?_
      refine (HTOT.out wd hF0).mono ?_
      rintro e w1 ⟨rfl, hb⟩
      have hB2 : Below B0 W w1 := below_then hF0 hgW hb
      refine ⟨_, rfl, hB2, ?_⟩
      exact norm_ (by simp only [putAll, Act.put, List.setIfInBounds_toArray, List.set_cons_zero, List.set_cons_succ]) (NMTV (vo, s8) _ ⟨hB2, (Kd.R_below hF1 hb), (hF2.below hb hF2.lt), hF3, hF4⟩)
  intro NMV
  refine join_ (σ := Value × Nat) 3 #[true, true, false, true, true, true, false, false] (fun s => [(25, .int .i64 S), (8, .pointer (some ⟨(s.2), 0, none⟩))]) (fun s w' => (Below B0 W w') ∧ (Blk w' (s.2) [.int .i64 0] 2) ∧ (B0 ≤ (s.2))) ?_ ?_
  · rintro ⟨vo, s8⟩ wd ⟨hF0, hF1, hF2⟩
    simp only [putAll, Act.put, List.setIfInBounds_toArray, List.set_cons_zero, List.set_cons_succ]
    refine la_next (i := 2) #[true, true, true, true, true, true, false, false] rfl (by kernel_rfl) rfl ?_
    · have hgW : B0 ≤ wd.heap.size := Nat.le_trans (Nat.le_of_eq HB0.out) (by have := hF0.size; exact this)
      refine ev_make 23 rfl (by kernel_rfl) kI (w0 := wd) wd.heap.size 2 38 (.tmp 22) (.tmp 22) rfl (am.length : Int) (by kernel_rfl) (by kernel_rfl) Try.underlying38 (.int .i64 0) 8 infoQ_i64 rfl (by decide) (by omega) 0 (ok := fun _ => True) (okp := fun _ => True) rfl (fun _ _ => trivial) trivial (by omega) (by omega) (Below.refl _ _) (Nat.le_refl _) (fun v1 w1 ho hb => ?_)
      rw [Int.toNat_natCast] at ho
      have hB2 : Below B0 W w1 := below_then hF0 hgW hb
      refine ⟨hB2, ?_⟩
      exact norm_ (by simp only [putAll, Act.put, List.setIfInBounds_toArray, List.set_cons_zero, List.set_cons_succ]) (NMTV (v1, s8) _ ⟨hB2, (Kd.R_lower (Kd.R_tight rfl ho) hgW), (hF1.below hb hF1.lt), hF2, (fun e => by have h1 := Kd.R_base ho _ e.symm; have := hF1.lt; omega)⟩)
  intro NTV
  refine join_ (σ := Value × Nat) 4 #[true, true, true, true, false, false, false, false] (fun s => [(23, (s.1))]) (fun s w' => (Below B0 W w') ∧ (Kd.R kI 2 w' B0 (fun k => some k = (s.1).ownBlock) (s.1) (List.replicate am.length 0))) ?_ ?_
  · rintro ⟨vo, s8⟩ wd ⟨hF0, hF1⟩
    simp only [putAll, Act.put, List.setIfInBounds_toArray, List.set_cons_zero, List.set_cons_succ]
    refine la_two (i := 4) (j := 5) #[true, true, true, true, true, false, false, false] #[true, true, true, true, false, true, false, false] rfl rfl (by kernel_rfl) rfl rfl ?_ ?_
    · have hgW : B0 ≤ wd.heap.size := Nat.le_trans (Nat.le_of_eq HB0.out) (by have := hF0.size; exact this)
      refine ev_call (some 25) rfl Try.func64 (by kernel_rfl) rfl #[.slice A am.length c] rfl (by simp only [List.map_toArray, List.map_cons, List.map_nil]; kernel_rfl) ?_
      refine (HTOT.out wd hF0).mono ?_
      rintro e w1 ⟨rfl, hb⟩
      have hB2 : Below B0 W w1 := below_then hF0 hgW hb
      refine ⟨_, rfl, hB2, ?_⟩
      exact norm_ (by simp only [putAll, Act.put, List.setIfInBounds_toArray, List.set_cons_zero, List.set_cons_succ]) (NMT (vo, s8) _ ⟨hB2, (Kd.R_below hF1 hb)⟩)
    · have hgW : B0 ≤ wd.heap.size := Nat.le_trans (Nat.le_of_eq HB0.out) (by have := hF0.size; exact this)
      have hb : Below wd.heap.size wd (wd.alloc (.cells [Value.int .i64 0].toArray 2)) := (Below.refl _ _).alloc (Nat.le_refl _) _
      refine ev_value (some 8) rfl _ (wd.alloc (.cells [Value.int .i64 0].toArray 2)) (run_alloc1 rfl wd (zeroI64 _) rfl) (below_then hF0 hgW hb) ?_
      exact norm_ (by simp only [putAll, Act.put, List.setIfInBounds_toArray, List.set_cons_zero, List.set_cons_succ]) (NMV (vo, wd.heap.size) _ ⟨(below_then hF0 hgW hb), (Kd.R_below hF1 hb), (Blk.new' _ _ _), hgW, (fun e => Nat.lt_irrefl _ (Kd.R_lt hF1 _ e.symm))⟩)
  intro NM
  refine join_ (σ := Value × Nat) 4 #[true, true, false, true, true, false, false, false] (fun s => [(25, .int .i64 S)]) (fun s w' => (Below B0 W w')) ?_ ?_
  · rintro ⟨vo, s8⟩ wd hF0
    simp only [putAll, Act.put, List.setIfInBounds_toArray, List.set_cons_zero, List.set_cons_succ]
    refine la_two (i := 2) (j := 5) #[true, true, true, true, true, false, false, false] #[true, true, false, true, true, true, false, false] rfl rfl (by kernel_rfl) rfl rfl ?_ ?_
    · have hgW : B0 ≤ wd.heap.size := Nat.le_trans (Nat.le_of_eq HB0.out) (by have := hF0.size; exact this)
      refine ev_make 23 rfl (by kernel_rfl) kI (w0 := wd) wd.heap.size 2 38 (.tmp 22) (.tmp 22) rfl (am.length : Int) (by kernel_rfl) (by kernel_rfl) Try.underlying38 (.int .i64 0) 8 infoQ_i64 rfl (by decide) (by omega) 0 (ok := fun _ => True) (okp := fun _ => True) rfl (fun _ _ => trivial) trivial (by omega) (by omega) (Below.refl _ _) (Nat.le_refl _) (fun v1 w1 ho hb => ?_)
      rw [Int.toNat_natCast] at ho
      have hB2 : Below B0 W w1 := below_then hF0 hgW hb
      refine ⟨hB2, ?_⟩
      exact norm_ (by simp only [putAll, Act.put, List.setIfInBounds_toArray, List.set_cons_zero, List.set_cons_succ]) (NMT (v1, s8) _ ⟨hB2, (Kd.R_lower (Kd.R_tight rfl ho) hgW)⟩)
    · have hgW : B0 ≤ wd.heap.size := Nat.le_trans (Nat.le_of_eq HB0.out) (by have := hF0.size; exact this)
      have hb : Below wd.heap.size wd (wd.alloc (.cells [Value.int .i64 0].toArray 2)) := (Below.refl _ _).alloc (Nat.le_refl _) _
      refine ev_value (some 8) rfl _ (wd.alloc (.cells [Value.int .i64 0].toArray 2)) (run_alloc1 rfl wd (zeroI64 _) rfl) (below_then hF0 hgW hb) ?_
      exact norm_ (by simp only [putAll, Act.put, List.setIfInBounds_toArray, List.set_cons_zero, List.set_cons_succ]) (NTV (vo, wd.heap.size) _ ⟨(below_then hF0 hgW hb), (Blk.new' _ _ _), hgW⟩)
  intro NT
  refine join_ (σ := Value × Nat) 4 #[true, true, false, true, false, true, false, false] (fun s => [(8, .pointer (some ⟨(s.2), 0, none⟩))]) (fun s w' => (Below B0 W w') ∧ (Blk w' (s.2) [.int .i64 0] 2) ∧ (B0 ≤ (s.2))) ?_ ?_
  · rintro ⟨vo, s8⟩ wd ⟨hF0, hF1, hF2⟩
    simp only [putAll, Act.put, List.setIfInBounds_toArray, List.set_cons_zero, List.set_cons_succ]
    refine la_two (i := 2) (j := 4) #[true, true, true, true, false, true, false, false] #[true, true, false, true, true, true, false, false] rfl rfl (by kernel_rfl) rfl rfl ?_ ?_
    · have hgW : B0 ≤ wd.heap.size := Nat.le_trans (Nat.le_of_eq HB0.out) (by have := hF0.size; exact this)
      refine ev_make 23 rfl (by kernel_rfl) kI (w0 := wd) wd.heap.size 2 38 (.tmp 22) (.tmp 22) rfl (am.length : Int) (by kernel_rfl) (by kernel_rfl) Try.underlying38 (.int .i64 0) 8 infoQ_i64 rfl (by decide) (by omega) 0 (ok := fun _ => True) (okp := fun _ => True) rfl (fun _ _ => trivial) trivial (by omega) (by omega) (Below.refl _ _) (Nat.le_refl _) (fun v1 w1 ho hb => ?_)
      rw [Int.toNat_natCast] at ho
      have hB2 : Below B0 W w1 := below_then hF0 hgW hb
      refine ⟨hB2, ?_⟩
      exact norm_ (by simp only [putAll, Act.put, List.setIfInBounds_toArray, List.set_cons_zero, List.set_cons_succ]) (NMV (v1, s8) _ ⟨hB2, (Kd.R_lower (Kd.R_tight rfl ho) hgW), (hF1.below hb hF1.lt), hF2, (fun e => by have h1 := Kd.R_base ho _ e.symm; have := hF1.lt; omega)⟩)
    · have hgW : B0 ≤ wd.heap.size := Nat.le_trans (Nat.le_of_eq HB0.out) (by have := hF0.size; exact this)
      refine ev_call (some 25) rfl Try.func64 (by kernel_rfl) rfl #[.slice A am.length c] rfl (by simp only [List.map_toArray, List.map_cons, List.map_nil]; kernel_rfl) ?_
      refine (HTOT.out wd hF0).mono ?_
      rintro e w1 ⟨rfl, hb⟩
      have hB2 : Below B0 W w1 := below_then hF0 hgW hb
      refine ⟨_, rfl, hB2, ?_⟩
      exact norm_ (by simp only [putAll, Act.put, List.setIfInBounds_toArray, List.set_cons_zero, List.set_cons_succ]) (NTV (vo, s8) _ ⟨hB2, (hF1.below hb hF1.lt), hF2⟩)
  intro NV
  refine la_three (i := 2) (j := 4) (k := 5) #[true, true, true, true, false, false, false, false] #[true, true, false, true, true, false, false, false] #[true, true, false, true, false, true, false, false] rfl rfl rfl (by kernel_rfl) rfl rfl rfl ?_ ?_ ?_
  · have hgW : B0 ≤ wd.heap.size := Nat.le_trans (Nat.le_of_eq HB0.out) (by have := hF0.size; exact this)
    refine ev_make 23 rfl (by kernel_rfl) kI (w0 := wd) wd.heap.size 2 38 (.tmp 22) (.tmp 22) rfl (am.length : Int) (by kernel_rfl) (by kernel_rfl) Try.underlying38 (.int .i64 0) 8 infoQ_i64 rfl (by decide) (by omega) 0 (ok := fun _ => True) (okp := fun _ => True) rfl (fun _ _ => trivial) trivial (by omega) (by omega) (Below.refl _ _) (Nat.le_refl _) (fun v1 w1 ho hb => ?_)
    rw [Int.toNat_natCast] at ho
    have hB2 : Below B0 W w1 := below_then hF0 hgW hb
    refine ⟨hB2, ?_⟩
    exact norm_ (by simp only [putAll, Act.put, List.setIfInBounds_toArray, List.set_cons_zero, List.set_cons_succ]) (NM (v1, s8) _ ⟨hB2, (Kd.R_lower (Kd.R_tight rfl ho) hgW)⟩)
  · have hgW : B0 ≤ wd.heap.size := Nat.le_trans (Nat.le_of_eq HB0.out) (by have := hF0.size; exact this)
    refine ev_call (some 25) rfl Try.func64 (by kernel_rfl) rfl #[.slice A am.length c] rfl (by simp only [List.map_toArray, List.map_cons, List.map_nil]; kernel_rfl) ?_
    refine (HTOT.out wd hF0).mono ?_
    rintro e w1 ⟨rfl, hb⟩
    have hB2 : Below B0 W w1 := below_then hF0 hgW hb
    refine ⟨_, rfl, hB2, ?_⟩
    exact norm_ (by simp only [putAll, Act.put, List.setIfInBounds_toArray, List.set_cons_zero, List.set_cons_succ]) (NT (vo, s8) _ hB2)
  · have hgW : B0 ≤ wd.heap.size := Nat.le_trans (Nat.le_of_eq HB0.out) (by have := hF0.size; exact this)
    have hb : Below wd.heap.size wd (wd.alloc (.cells [Value.int .i64 0].toArray 2)) := (Below.refl _ _).alloc (Nat.le_refl _) _
    refine ev_value (some 8) rfl _ (wd.alloc (.cells [Value.int .i64 0].toArray 2)) (run_alloc1 rfl wd (zeroI64 _) rfl) (below_then hF0 hgW hb) ?_
    exact norm_ (by simp only [putAll, Act.put, List.setIfInBounds_toArray, List.set_cons_zero, List.set_cons_succ]) (NV (vo, wd.heap.size) _ ⟨(below_then hF0 hgW hb), (Blk.new' _ _ _), hgW⟩)
end Go.Proofs.Ytgdkimdikalmkaa
