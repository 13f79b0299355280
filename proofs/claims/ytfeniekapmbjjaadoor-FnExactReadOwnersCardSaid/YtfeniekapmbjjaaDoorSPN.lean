/- Texts cut at a byte, words read as numbers: the reference's functions, told by plain recursions; the program's word for word. No condition but those that each theorem names. -/
import Derived.Test.YtfeniekapmbjjaaDoorPAllx1
import Derived.Test.YtfeniekapmbjjaaDoorPAllx2
import Derived.Test.YtfeniekapmbjjaaDoorGXo
namespace Go.Proofs.YtfeniekapmbjjaaDoor.PAll
open Go.RowKit Go.Proofs.YtfeniekapmbjjaaDoorW.PrintWords Go.Proofs.YtfeniekapmbjjaaDoorW.PrintLast Go.Proofs.YtfeniekapmbjjaaDoorW.PrintMore
set_option linter.unusedSimpArgs false
set_option linter.unusedVariables false

theorem ev_eq {α : Type} {r : α} {g : Nat → Option α} (h : ∀ k, g k = some r) : Ev g r := ⟨0, fun k _ => h k⟩
theorem wnat {i : Nat} (h : i ≤ 1048577) : wrap64 ((i : Int) + 1) = ((i + 1 : Nat) : Int) := by unfold wrap64; omega
theorem rd_get {l : List Int} {i : Nat} (h : i < l.length) : rd l (i : Int) = l[i] := by simp [rd, List.getD_eq_getElem?_getD, List.getElem?_eq_getElem h]
theorem rdb_get {l : List ByteArray} {i : Nat} (h : i < l.length) : rdOf ByteArray.empty l (i : Int) = l[i] := by simp [rdOf, List.getD_eq_getElem?_getD, List.getElem?_eq_getElem h]
theorem size_list (s : ByteArray) : s.size = s.data.toList.length := by rw [Lib.size_eq]
theorem bt_get {s : ByteArray} {i : Nat} (h : i < s.data.toList.length) : bt s (i : Int) = ((s.data.toList[i]).toNat : Int) := by
  have hs : i < s.size := by rw [size_list]; exact h
  unfold bt
  rw [dif_pos (by rw [Int.toNat_natCast]; exact hs)]
  rfl
theorem drop_byte {l : List UInt8} {i : Nat} (h : i < l.length) : l.drop i = l[i] :: l.drop (i + 1) := List.drop_eq_getElem_cons h
theorem ext_data (s : ByteArray) (a b : Nat) : (s.extract a b).data.toList = (s.data.toList.take b).drop a := by
  rw [Lib.extract_data]
  rw [List.drop_take]

/-! ### a text cut -/
theorem split_l0 (s : ByteArray) (c : UInt8) (hs : s.size ≤ 1048576) : ∀ d i fr (out : List ByteArray), i + d = s.data.toList.length → fr ≤ i → out.length ≤ i →
    Ev (fun k => spec_l01Split.l0 k s (c.toNat : Int) out (fr : Int) (i : Int)) (out ++ strs (att ((s.data.toList.take i).drop fr) (sp c (s.data.toList.drop i))))
  | 0, i, fr, out, hi, hf, ho => by
    have hl := size_list s
    refine Ev.step (f := fun _ => some _) (fun k => ?_) (Ev.now _)
    have e1 : i = s.data.toList.length := by omega
    have e3 : (s.extract fr s.size) = ⟨((s.data.toList.take i).drop fr).toArray⟩ := by
      refine ba_eq ?_
      rw [ext_data, hl, ← e1]
    have e2 : strs (att ((s.data.toList.take i).drop fr) (sp c (s.data.toList.drop i))) = [s.extract fr s.size] := by
      rw [e3, e1, List.drop_length]
      simp [sp, att, strs]
    rw [e2]
    simp only [spec_l01Split.l0]
    rw [if_neg (by omega), if_pos (by omega), if_pos (by omega), if_pos (by omega), Int.toNat_natCast]
  | d + 1, i, fr, out, hi, hf, ho => by
    have hl := size_list s
    have hlt : i < s.data.toList.length := by omega
    have hb := bt_get hlt
    rw [drop_byte hlt]
    by_cases hc : s.data.toList[i] = c
    · have ih := split_l0 s c hs d (i + 1) (i + 1) (out ++ [s.extract fr i]) (by omega) (by omega) (by simp; omega)
      have e1 : (s.data.toList.take (i + 1)).drop (i + 1) = [] := by rw [List.drop_eq_nil_iff, List.length_take]; omega
      rw [e1, att_nil (sp_ne c _)] at ih
      have e2 : strs (att ((s.data.toList.take i).drop fr) (sp c (s.data.toList[i] :: s.data.toList.drop (i + 1)))) = s.extract fr i :: strs (sp c (s.data.toList.drop (i + 1))) := by
        have e3 : (s.extract fr i) = ⟨((s.data.toList.take i).drop fr).toArray⟩ := ba_eq (by rw [ext_data])
        rw [e3]
        simp only [sp]
        rw [if_pos hc]
        simp [att, strs]
      rw [e2]
      rw [List.append_assoc, List.singleton_append] at ih
      refine Ev.step (fun k => ?_) ih
      simp only [spec_l01Split.l0]
      rw [if_pos (by omega), if_pos (by omega), hb, hc, if_pos rfl, if_pos (by omega), if_pos (by omega), if_pos (by omega), if_pos (by omega), wnat (by omega), Int.toNat_natCast, Int.toNat_natCast]
    · have ih := split_l0 s c hs d (i + 1) fr out (by omega) (by omega) (by omega)
      have e2 : att ((s.data.toList.take i).drop fr) (sp c (s.data.toList[i] :: s.data.toList.drop (i + 1))) = att ((s.data.toList.take (i + 1)).drop fr) (sp c (s.data.toList.drop (i + 1))) := by
        simp only [sp]
        rw [if_neg hc, att_att _ _ (sp_ne c _), List.take_succ_eq_append_getElem hlt, List.drop_append_of_le_length (by rw [List.length_take]; omega)]
      rw [e2]
      refine Ev.step (fun k => ?_) ih
      have hne : ¬ ((s.data.toList[i]).toNat : Int) = (c.toNat : Int) := fun h => hc (UInt8.toNat_inj.1 (by omega))
      simp only [spec_l01Split.l0]
      rw [if_pos (by omega), if_pos (by omega), hb, if_neg hne, wnat (by omega)]
theorem split_ev (s : ByteArray) (c : UInt8) (hs : s.size ≤ 1048576) : Ev (fun k => spec_l01Split.f k s (c.toNat : Int)) (strs (sp c s.data.toList)) := by
  have h := split_l0 s c hs s.data.toList.length 0 0 [] (by omega) (by omega) (by simp)
  have e : att ((s.data.toList.take 0).drop 0) (sp c (s.data.toList.drop 0)) = sp c s.data.toList := by
    simp only [List.take_zero, List.drop_zero, List.drop_nil]
    exact att_nil (sp_ne c _)
  rw [e, List.nil_append] at h
  exact h

/-! ### a word read as a number, by the reference -/
theorem w8 {x : Int} (h0 : 48 ≤ x) (h1 : x ≤ 57) : (x - 48) % 256 = x - 48 := by omega
theorem num_bd {a p : Nat} (hv : a < (0 + 1) * p) (hp : p ≤ 10 ^ 8) : a ≤ 100000000 := by omega
theorem num_step {a b : Nat} (ha : a ≤ 100000000) (h0 : 48 ≤ b) (h1 : b ≤ 57) : wrap64 (wrap64 (10 * (a : Int)) + (((b : Int) - 48) % 256)) = ((a * 10 + (b - 48) : Nat) : Int) := by
  rw [w8 (by omega) (by omega)]
  unfold wrap64
  omega
theorem ba_beq {a b : ByteArray} (h : (a == b) = true) : a = b := by
  have h2 : (a.data == b.data) = true := h
  exact ba_eq (congrArg Array.toList (eq_of_beq h2))
theorem ba_bne {a b : ByteArray} (h : a ≠ b) : (a == b) = false := by
  cases e : a == b with
  | true => exact absurd (ba_beq e) h
  | false => rfl
theorem ba_refl (a : ByteArray) : (a == a) = true := by
  show (a.data == a.data) = true
  exact beq_self_eq_true _
theorem list_nil : (⟨#[]⟩ : ByteArray).toList = [] := by
  unfold ByteArray.toList
  unfold ByteArray.toList.loop
  rfl
theorem number_l0 (s : ByteArray) (hs : s.data.toList.length ≤ 9) : ∀ d i : Nat, i + d = s.data.toList.length → (s.data.toList.take i).all isDig = true →
    Ev (fun k => spec_l01Number.l0 k s ((val 0 (s.data.toList.take i) : Nat) : Int) (i : Int)) (if s.data.toList.all isDig = true then (((val 0 s.data.toList : Nat) : Int), true) else (0, false))
  | 0, i, hi, ha => by
    have e : i = s.data.toList.length := by omega
    rw [e, List.take_length] at ha
    rw [e, List.take_length, if_pos ha]
    have hl := size_list s
    refine Ev.step (f := fun _ => some _) (fun k => ?_) (Ev.now _)
    simp only [spec_l01Number.l0]
    rw [if_neg (by omega)]
  | d + 1, i, hi, ha => by
    have hl := size_list s
    have hlt : i < s.data.toList.length := by omega
    have hb := bt_get hlt
    have htk := List.take_succ_eq_append_getElem hlt
    cases hd : isDig s.data.toList[i] with
    | true =>
      have ha2 : (s.data.toList.take (i + 1)).all isDig = true := by 
        rw [htk, List.all_append, ha]
        show (true && (isDig s.data.toList[i] && true)) = true
        rw [hd]
        rfl
      have ih := number_l0 s hs d (i + 1) (by omega) ha2
      unfold isDig at hd
      simp only [Bool.and_eq_true, decide_eq_true_eq] at hd
      have hv := val_lt (s.data.toList.take i) 0 ha
      have hp : 10 ^ (s.data.toList.take i).length ≤ 10 ^ 8 := Nat.pow_le_pow_right (by omega) (by rw [List.length_take]; omega)
      have hv2 := num_bd hv hp
      have e1 : wrap64 (wrap64 (10 * ((val 0 (s.data.toList.take i) : Nat) : Int)) + ((((s.data.toList[i]).toNat : Int) - 48) % 256)) = ((val 0 (s.data.toList.take (i + 1)) : Nat) : Int) := by
        rw [htk, val_snoc]
        exact num_step hv2 hd.1 hd.2
      refine Ev.step (fun k => ?_) ih
      simp only [spec_l01Number.l0]
      rw [if_pos (by omega), if_pos (by omega), hb, if_neg (by omega), if_neg (by omega), e1, wnat (by omega)]
    | false =>
      have hn : ¬ s.data.toList.all isDig = true := fun h => by
        have := List.all_eq_true.1 h _ (List.getElem_mem hlt)
        rw [hd] at this
        cases this
      rw [if_neg hn]
      refine Ev.step (f := fun _ => some (0, false)) (fun k => ?_) (Ev.now _)
      unfold isDig at hd
      simp only [Bool.and_eq_false_iff, decide_eq_false_iff_not] at hd
      simp only [spec_l01Number.l0]
      rw [if_pos (by omega), if_pos (by omega), hb]
      by_cases h1 : ((s.data.toList[i]).toNat : Int) < 48
      · rw [if_pos h1]
      · rw [if_neg h1, if_pos (by omega)]
/-- A word is a number's decimal, or it is none. -/
theorem number_ev (s : ByteArray) : ∃ r : Int × Bool, Ev (fun k => spec_l01Number.f k s) r ∧ (r.2 = true → 0 ≤ r.1 ∧ r.1 ≤ 999999999 ∧ s = dec r.1) ∧ (∀ v : Int, 0 ≤ v → v ≤ 1000000 → s = dec v → r = (v, true)) := by
  have hl := size_list s
  have hdec : ∀ v : Int, s = dec v → s.data.toList = Lib.decDigits v.toNat := fun v h => by rw [h]; exact ba_of
  have no : (∀ v : Int, 0 ≤ v → v ≤ 1000000 → s = dec v → False) → Ev (fun k => spec_l01Number.f k s) (0, false) → ∃ r : Int × Bool, Ev (fun k => spec_l01Number.f k s) r ∧ (r.2 = true → 0 ≤ r.1 ∧ r.1 ≤ 999999999 ∧ s = dec r.1) ∧ (∀ v : Int, 0 ≤ v → v ≤ 1000000 → s = dec v → r = (v, true)) := fun h1 h2 =>
    ⟨(0, false), h2, (fun h => absurd h Bool.false_ne_true), (fun v a b c => (h1 v a b c).elim)⟩
  have j0t : Ev (fun k => spec_l01Number.j0 k s true) (0, false) := Ev.step (f := fun _ => some (0, false)) (fun k => by simp only [spec_l01Number.j0, if_true]) (Ev.now _)
  have small : ∀ v : Int, 0 ≤ v → v ≤ 1000000 → (Lib.decDigits v.toNat).length ≤ 7 := fun v h0 h1 => by
    obtain ⟨d1, d2, d3, d4⟩ := dec_spells v.toNat
    rcases Nat.lt_or_ge 7 (Lib.decDigits v.toNat).length with h | h
    · exfalso
      cases hd : Lib.decDigits v.toNat with
      | nil => exact absurd hd d3
      | cons c r =>
        have hc := d4 (by omega) c r hd
        have hg := val_ge r (0 * 10 + (c.toNat - 48))
        rw [hd] at d1 d2 h
        simp only [List.all_cons, Bool.and_eq_true] at d1
        have hc2 := d1.1
        unfold isDig at hc2
        simp only [Bool.and_eq_true, decide_eq_true_eq] at hc2
        rw [val_cons] at d2
        have hp : 10 ^ 7 ≤ 10 ^ r.length := Nat.pow_le_pow_right (by omega) (by simp at h; omega)
        have h3 : 1 * 10 ^ r.length ≤ (0 * 10 + (c.toNat - 48)) * 10 ^ r.length := Nat.mul_le_mul_right _ (by omega)
        omega
    · exact h
  by_cases h0 : s.data.toList = []
  · refine no (fun v a b c => ?_) (Ev.congr (fun k => ?_) j0t)
    · have := hdec v c
      rw [h0] at this
      exact (dec_spells v.toNat).2.2.1 this.symm
    · unfold spec_l01Number.f
      have e : s = ⟨#[]⟩ := ba_eq (by rw [h0])
      rw [if_pos (by rw [e, list_nil])]
  have hpos := List.length_pos_iff.2 h0
  have hne : ¬ s.toList = ([] : List UInt8) := fun h => by
    have e : s.toList = (⟨#[]⟩ : ByteArray).toList := by rw [h, list_nil]
    have e2 : (s == ⟨#[]⟩) = true := by rw [beq_toListBytes, e]; simp
    have e3 := ba_beq e2
    rw [e3] at h0
    exact h0 rfl
  by_cases h9 : s.data.toList.length > 9
  · refine no (fun v a b c => ?_) (Ev.congr (fun k => ?_) j0t)
    · have h1 := hdec v c
      have h2 := small v a b
      rw [h1] at h9
      omega
    · unfold spec_l01Number.f
      rw [if_neg hne, if_pos (by omega)]
  obtain ⟨c, r, hcr⟩ : ∃ c r, s.data.toList = c :: r := by
    cases h : s.data.toList with
    | nil => exact absurd h h0
    | cons c r => exact ⟨c, r, rfl⟩
  have hb : bt s 0 = (c.toNat : Int) := by
    have := bt_get (s := s) (i := 0) hpos
    rw [show ((0 : Nat) : Int) = 0 from rfl] at this
    rw [this]
    simp [hcr]
  have hf : ∀ k, spec_l01Number.f k s = spec_l01Number.j0 k s (decide (c.toNat = 48) && decide (1 < s.data.toList.length)) := fun k => by
    unfold spec_l01Number.f
    rw [if_neg hne, if_neg (by omega), if_pos (by omega), hb]
    by_cases hc : c.toNat = 48
    · rw [if_pos (by omega), decide_eq_true hc, Bool.true_and]
      congr 1
      rw [decide_eq_decide]
      omega
    · rw [if_neg (by omega), decide_eq_false hc, Bool.false_and]
  by_cases hz : c.toNat = 48 ∧ 1 < s.data.toList.length
  · refine no (fun v a b h => ?_) (Ev.congr (fun k => ?_) j0t)
    · have h1 := hdec v h
      exact (dec_spells v.toNat).2.2.2 (by rw [← h1]; exact hz.2) c r (by rw [← h1]; exact hcr) hz.1
    · rw [hf, decide_eq_true hz.1, decide_eq_true hz.2]
      rfl
  · have hj : Ev (fun k => spec_l01Number.f k s) (if s.data.toList.all isDig = true then (((val 0 s.data.toList : Nat) : Int), true) else (0, false)) := by
      refine Ev.congr hf (Ev.step (fun k => ?_) (number_l0 s (by omega) s.data.toList.length 0 (by omega) rfl))
      have e : (decide (c.toNat = 48) && decide (1 < s.data.toList.length)) = false := by
        rw [Bool.and_eq_false_iff, decide_eq_false_iff_not, decide_eq_false_iff_not]
        omega
      rw [e]
      simp only [spec_l01Number.j0]
      rw [if_neg (by decide), List.take_zero, val_nil]
      rfl
    by_cases ha : s.data.toList.all isDig = true
    · rw [if_pos ha] at hj
      have hd := dec_of ha h0 (fun hl1 c2 r2 h2 h48 => by
        rw [hcr] at h2
        injection h2 with h3 h4
        subst h3
        exact hz ⟨h48, hl1⟩)
      have hv := val_lt _ 0 ha
      have hp : 10 ^ s.data.toList.length ≤ 10 ^ 9 := Nat.pow_le_pow_right (by omega) (by omega)
      refine ⟨_, hj, fun _ => ⟨by show (0 : Int) ≤ ((val 0 s.data.toList : Nat) : Int); omega, by show ((val 0 s.data.toList : Nat) : Int) ≤ 999999999; omega, ba_eq ?_⟩, fun v v0 v1 h => ?_⟩
      · show s.data.toList = (dec ((val 0 s.data.toList : Nat) : Int)).data.toList
        unfold dec
        rw [ba_of, Int.toNat_natCast, hd]
      · have h1 := hdec v h
        have h2 := (dec_spells v.toNat).2.1
        rw [← h1] at h2
        rw [h2, Int.toNat_of_nonneg v0]
    · rw [if_neg ha] at hj
      refine no (fun v a b h => ?_) hj
      have h1 := hdec v h
      exact ha (by rw [h1]; exact (dec_spells v.toNat).1)
/-- The program's reading of a word. -/
theorem parse_yes {v hi : Int} (h0 : 0 ≤ v) (h1 : v ≤ hi) (h2 : hi ≤ 1000000) : parseF (dec v) 0 hi = (v, true) := by
  unfold parseF
  have e : (dec v).data.toList = Lib.decDigits v.toNat := ba_of
  rw [e, parse_dec v.toNat (by omega)]
  simp only
  rw [Int.toNat_of_nonneg h0, decide_eq_true h0, decide_eq_true h1]
  simp
theorem parse_no {s : ByteArray} {hi : Int} (h : ∀ v : Int, 0 ≤ v → v ≤ hi → s ≠ dec v) : (parseF s 0 hi).2 = false := by
  unfold parseF
  rcases hp : Lib.parseIntB 64 s.data.toList with v | _ | _
  · simp only
    by_cases h0 : 0 ≤ v
    · by_cases h1 : v ≤ hi
      · rw [decide_eq_true h0, decide_eq_true h1, ← beq_toListBytes]
        have := h v h0 h1
        simp only [Bool.and_true, Bool.true_and]
        exact ba_bne (fun e => this e.symm)
      · rw [decide_eq_false h1]
        simp
    · rw [decide_eq_false h0]
      simp
  · rfl
  · rfl
end Go.Proofs.YtfeniekapmbjjaaDoor.PAll
