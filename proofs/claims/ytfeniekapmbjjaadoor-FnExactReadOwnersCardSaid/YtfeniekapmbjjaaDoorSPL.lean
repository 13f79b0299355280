/- Strings cut at a byte; small numbers read in decimal: the library's plain functions, told by plain recursions. No program. No condition but those that each theorem names. -/
import Derived.Lib.Split
import Derived.Lib.SplitLaws
import Derived.Lib.ParseIntB
import Derived.Lib.ItoaNum
import Derived.Lib.Join
namespace Go.Proofs.YtfeniekapmbjjaaDoor
open Go
set_option linter.unusedSimpArgs false
set_option linter.unusedVariables false

/-- A piece laid ahead of the first piece. -/
def att (p : List UInt8) : List (List UInt8) → List (List UInt8)
  | [] => [p]
  | q :: qs => (p ++ q) :: qs
/-- A text cut at each c. -/
def sp (c : UInt8) : List UInt8 → List (List UInt8)
  | [] => [[]]
  | b :: l => if b = c then [] :: sp c l else att [b] (sp c l)
theorem sp_ne (c : UInt8) : ∀ l, sp c l ≠ []
  | [] => by simp [sp]
  | b :: l => by
    simp only [sp]
    split
    · simp
    · cases sp c l <;> simp [att]
theorem att_nil {x : List (List UInt8)} (h : x ≠ []) : att [] x = x := by cases x <;> simp_all [att]
theorem att_att (p q : List UInt8) {x : List (List UInt8)} (h : x ≠ []) : att p (att q x) = att (p ++ q) x := by cases x <;> simp_all [att]
theorem sp_none (c : UInt8) : ∀ l, c ∉ l → sp c l = [l]
  | [], _ => rfl
  | b :: l, h => by
    simp only [List.mem_cons, not_or] at h
    simp only [sp]
    rw [if_neg (fun e => h.1 e.symm), sp_none c l h.2]
    rfl
theorem sp_hit (c : UInt8) : ∀ (p l : List UInt8), c ∉ p → sp c (p ++ c :: l) = p :: sp c l
  | [], l, _ => by simp [sp]
  | b :: p, l, h => by
    simp only [List.mem_cons, not_or] at h
    simp only [List.cons_append, sp]
    rw [if_neg (fun e => h.1 e.symm), sp_hit c p l h.2]
    rfl
theorem index_one (c : UInt8) : ∀ s, (Lib.index s [c] = -1 ∧ c ∉ s) ∨ ∃ p l, s = p ++ c :: l ∧ c ∉ p ∧ Lib.index s [c] = (p.length : Int)
  | [] => .inl ⟨rfl, by simp⟩
  | b :: l => by
    by_cases e : c = b
    · subst e
      exact .inr ⟨[], l, rfl, by simp, by simp [Lib.index]⟩
    · have hp : ([c].isPrefixOf (b :: l)) = false := by simp [List.isPrefixOf, e]
      rcases index_one c l with ⟨h1, h2⟩ | ⟨p, r, h1, h2, h3⟩
      · refine .inl ⟨?_, ?_⟩
        · unfold Lib.index
          rw [if_neg (by rw [hp]; decide), h1]
          rfl
        · simp [e, h2]
      · refine .inr ⟨b :: p, r, by rw [h1]; rfl, by simp [e, h2], ?_⟩
        have hne : ¬ (Lib.index l [c] == -1) = true := by
          rw [h3]
          simp only [beq_iff_eq]
          omega
        unfold Lib.index
        rw [if_neg (by rw [hp]; decide), if_neg hne, h3]
        simp
theorem split_sp (c : UInt8) : ∀ (n : Nat) (s : List UInt8), s.length ≤ n → ∀ k, (sp c s).length = k + 1 → Lib.splitK [c] 0 k s = sp c s
  | n, s, hn, k, hk => by
    rcases index_one c s with ⟨h1, h2⟩ | ⟨p, l, h1, h2, h3⟩
    · rw [sp_none c s h2] at hk ⊢
      obtain rfl : k = 0 := by simpa using hk
      rfl
    · subst h1
      rw [sp_hit c p l h2] at hk ⊢
      obtain ⟨k, rfl⟩ : ∃ j, k = j + 1 := by
        refine ⟨k - 1, ?_⟩
        have := List.length_pos_iff.2 (sp_ne c l)
        simp only [List.length_cons] at hk
        omega
      have hne : ¬ (Lib.index (p ++ c :: l) [c] == -1) = true := by
        rw [h3]
        simp only [beq_iff_eq]
        omega
      unfold Lib.splitK
      rw [if_neg hne, h3]
      have e1 : ((p.length : Nat) : Int).toNat + 0 = p.length := by omega
      have e2 : ((p.length : Nat) : Int).toNat + [c].length = p.length + 1 := by simp
      rw [e1, e2]
      have e3 : (p ++ c :: l).take p.length = p := by simp
      have e4 : (p ++ c :: l).drop (p.length + 1) = l := by simp [List.drop_append]
      rw [e3, e4]
      match n, hn with
      | 0, hn => simp at hn
      | n + 1, hn => rw [split_sp c n l (by simp at hn; omega) k (by simpa using hk)]
theorem ba_eq {a b : ByteArray} (h : a.data.toList = b.data.toList) : a = b := by
  cases a; cases b; simp only [ByteArray.mk.injEq]; exact Array.toList_inj.1 h
theorem ba_of {l : List UInt8} : (⟨l.toArray⟩ : ByteArray).data.toList = l := by simp
def strs (x : List (List UInt8)) : List ByteArray := x.map fun p => ⟨p.toArray⟩
theorem strs_map {x : List ByteArray} : strs (x.map (·.data.toList)) = x := by
  unfold strs
  rw [List.map_map]
  conv => rhs; rw [← List.map_id x]
  refine List.map_congr_left fun a _ => ?_
  exact ba_eq (by simp)
theorem count_sp (c : UInt8) : ∀ (n : Nat) (s : List UInt8), s.length ≤ n → (sp c s).length = Lib.count s [c] + 1
  | n, s, hn => by
    rcases index_one c s with ⟨h1, h2⟩ | ⟨p, l, h1, h2, h3⟩
    · rw [sp_none c s h2, Lib.count_miss h1]
      rfl
    · rw [Lib.count_hit (by simp) h3]
      subst h1
      have e4 : (p ++ c :: l).drop (p.length + [c].length) = l := by simp [List.drop_append]
      rw [sp_hit c p l h2, e4, List.length_cons]
      match n, hn with
      | 0, hn => simp at hn
      | n + 1, hn =>
        rw [count_sp c n l (by simp at hn; omega)]
        omega
/-- The library's pieces are these. -/
theorem pieces (c : UInt8) (s : ByteArray) : Lib.splitB ⟨#[c]⟩ 0 (Lib.countB s ⟨#[c]⟩) s = strs (sp c s.data.toList) := by
  have h1 := Lib.splitB_data ⟨#[c]⟩ 0 (Lib.countB s ⟨#[c]⟩) s
  have e : (⟨#[c]⟩ : ByteArray).data.toList = [c] := rfl
  rw [e] at h1
  have e2 : Lib.countB s ⟨#[c]⟩ = Lib.count s.data.toList [c] := rfl
  rw [split_sp c s.data.toList.length s.data.toList (Nat.le_refl _) _ (by rw [e2]; exact count_sp c _ _ (Nat.le_refl _))] at h1
  rw [← h1, strs_map]
theorem strs_len (x : List (List UInt8)) : (strs x).length = x.length := by simp [strs]
theorem pieces_len (c : UInt8) (s : ByteArray) : (strs (sp c s.data.toList)).length = Lib.countB s ⟨#[c]⟩ + 1 := by
  rw [strs_len]
  exact count_sp c _ _ (Nat.le_refl _)
theorem sp_len (c : UInt8) : ∀ l, (sp c l).length ≤ l.length + 1
  | [] => by simp [sp]
  | b :: l => by
    have ih := sp_len c l
    have hne := sp_ne c l
    simp only [sp]
    split
    · simp; omega
    · cases h : sp c l with
      | nil => exact absurd h hne
      | cons q qs => rw [h] at ih; simp [att] at ih ⊢; omega
theorem sp_mem_len (c : UInt8) : ∀ l, ∀ p ∈ sp c l, p.length ≤ l.length
  | [], p, h => by simp [sp] at h; simp [h]
  | b :: l, p, h => by
    have ih := sp_mem_len c l
    simp only [sp] at h
    split at h
    · rcases List.mem_cons.1 h with h | h
      · simp [h]
      · have := ih p h; simp; omega
    · cases hs : sp c l with
      | nil => exact absurd hs (sp_ne c l)
      | cons q qs =>
        rw [hs] at h
        simp only [att, List.mem_cons] at h
        rcases h with h | h
        · subst h
          have := ih q (by rw [hs]; simp)
          simp; omega
        · have := ih p (by rw [hs]; simp [h])
          simp; omega

/-! ### small numbers -/
theorem dec_list (v : Nat) (h : v < 10) : Lib.decDigits v = [UInt8.ofNat (48 + v)] := by rw [Lib.decDigits, dif_pos h]
theorem dec_list2 (v : Nat) (h : 10 ≤ v) : Lib.decDigits v = Lib.decDigits (v / 10) ++ [UInt8.ofNat (48 + v % 10)] := by rw [Lib.decDigits, dif_neg (by omega)]
theorem digit_nat (v : Nat) (h : v < 10) : (UInt8.ofNat (48 + v)).toNat = 48 + v := by
  rw [UInt8.toNat_ofNat']
  omega
/-- What digits spell, read from the left. -/
def dstep (a : Nat) (c : UInt8) : Nat := a * 10 + (c.toNat - 48)
def val (a : Nat) (l : List UInt8) : Nat := l.foldl dstep a
theorem val_nil (a : Nat) : val a [] = a := rfl
theorem dstep_eq (a : Nat) (c : UInt8) : dstep a c = a * 10 + (c.toNat - 48) := by unfold dstep; with_reducible rfl
theorem val_cons (a : Nat) (c : UInt8) (r : List UInt8) : val a (c :: r) = val (a * 10 + (c.toNat - 48)) r := by
  rw [← dstep_eq]
  rfl
attribute [local irreducible] val
def isDig (c : UInt8) : Bool := decide (48 ≤ c.toNat) && decide (c.toNat ≤ 57)
theorem val_snoc (c : UInt8) : ∀ (l : List UInt8) (a : Nat), val a (l ++ [c]) = val a l * 10 + (c.toNat - 48)
  | [], a => by simp only [List.nil_append, val_cons, val_nil]
  | b :: l, a => by
    simp only [List.cons_append, val_cons]
    exact val_snoc c l _
theorem val_ge : ∀ (l : List UInt8) (a : Nat), a * 10 ^ l.length ≤ val a l
  | [], a => by simp [val_nil]
  | b :: l, a => by
    have ih := val_ge l (a * 10 + (b.toNat - 48))
    simp only [val_cons, List.length_cons, Nat.pow_succ]
    refine Nat.le_trans ?_ ih
    rw [Nat.mul_comm (10 ^ l.length) 10, ← Nat.mul_assoc]
    exact Nat.mul_le_mul_right _ (by omega)
theorem val_lt : ∀ (l : List UInt8) (a : Nat), l.all isDig = true → val a l < (a + 1) * 10 ^ l.length
  | [], a, _ => by simp [val_nil]
  | b :: l, a, h => by
    simp only [List.all_cons, Bool.and_eq_true] at h
    have hb : b.toNat - 48 ≤ 9 := by
      have := h.1
      unfold isDig at this
      simp only [Bool.and_eq_true, decide_eq_true_eq] at this
      omega
    have ih := val_lt l (a * 10 + (b.toNat - 48)) h.2
    simp only [val_cons, List.length_cons, Nat.pow_succ]
    refine Nat.lt_of_lt_of_le ih ?_
    rw [Nat.mul_comm (10 ^ l.length) 10, ← Nat.mul_assoc]
    exact Nat.mul_le_mul_right _ (by omega)
/-- A number's decimal is digits that spell it, with no needless nought. -/
theorem dec_spells : ∀ v : Nat, (Lib.decDigits v).all isDig = true ∧ val 0 (Lib.decDigits v) = v ∧ Lib.decDigits v ≠ [] ∧ (1 < (Lib.decDigits v).length → ∀ c r, Lib.decDigits v = c :: r → c.toNat ≠ 48) := by
  intro v
  induction v using Nat.strongRecOn with
  | _ v ih =>
    by_cases h : v < 10
    · rw [dec_list v h]
      refine ⟨?_, ?_, by simp, fun h => by simp at h⟩
      · simp only [List.all_cons, List.all_nil, Bool.and_true]
        unfold isDig
        rw [digit_nat v h]
        simp only [Bool.and_eq_true, decide_eq_true_eq]
        omega
      · simp only [val_nil, val_cons]
        rw [digit_nat v h]
        omega
    · obtain ⟨h1, h2, h3, h4⟩ := ih (v / 10) (by omega)
      rw [dec_list2 v (by omega)]
      have hm : v % 10 < 10 := by omega
      refine ⟨?_, ?_, by simp, fun _ c r hc => ?_⟩
      · rw [List.all_append, h1]
        simp only [List.all_cons, List.all_nil, Bool.and_true, Bool.true_and]
        unfold isDig
        rw [digit_nat _ hm]
        simp only [Bool.and_eq_true, decide_eq_true_eq]
        omega
      · rw [val_snoc, h2, digit_nat _ hm]
        omega
      · cases hd : Lib.decDigits (v / 10) with
        | nil => exact absurd hd h3
        | cons d ds =>
          rw [hd] at hc
          simp only [List.cons_append, List.cons.injEq] at hc
          obtain ⟨rfl, -⟩ := hc
          by_cases hl : ds = []
          · subst hl
            rw [hd] at h2
            simp only [val_nil, val_cons] at h2
            omega
          · refine h4 ?_ d ds hd
            rw [hd]
            have := List.length_pos_iff.2 hl
            simp
            omega
theorem same_digits : ∀ (l m : List UInt8) (a b : Nat), l.length = m.length → l.all isDig = true → m.all isDig = true → val a l = val b m → l = m ∧ a = b
  | [], [], a, b, _, _, _, h => ⟨rfl, by simpa only [val_nil] using h⟩
  | [], _ :: _, _, _, h, _, _, _ => by simp at h
  | _ :: _, [], _, _, h, _, _, _ => by simp at h
  | c :: l, d :: m, a, b, hl, h1, h2, hv => by
    simp only [List.all_cons, Bool.and_eq_true] at h1 h2
    simp only [val_nil, val_cons] at hv
    obtain ⟨e1, e2⟩ := same_digits l m _ _ (by simpa using hl) h1.2 h2.2 hv
    have hc := h1.1
    have hd := h2.1
    unfold isDig at hc hd
    simp only [Bool.and_eq_true, decide_eq_true_eq] at hc hd
    have e3 : a = b := by omega
    have e4 : c = d := UInt8.toNat_inj.1 (by omega)
    exact ⟨by rw [e1, e4], e3⟩
/-- Digits with no needless nought are the decimal of what they spell. -/
theorem dec_of {l : List UInt8} (h : l.all isDig = true) (hne : l ≠ []) (h0 : 1 < l.length → ∀ c r, l = c :: r → c.toNat ≠ 48) : Lib.decDigits (val 0 l) = l := by
  obtain ⟨h1, h2, h3, h4⟩ := dec_spells (val 0 l)
  have len : ∀ m : List UInt8, m.all isDig = true → m ≠ [] → (1 < m.length → ∀ c r, m = c :: r → c.toNat ≠ 48) → (1 < m.length → 10 ^ (m.length - 1) ≤ val 0 m) ∧ val 0 m < 10 ^ m.length := fun m hm hn h0 => by
    refine ⟨fun hl => ?_, ?_⟩
    · cases m with
      | nil => exact absurd rfl hn
      | cons c r =>
        have hc := h0 hl c r rfl
        have hd : 49 ≤ c.toNat := by
          simp only [List.all_cons, Bool.and_eq_true] at hm
          have := hm.1
          unfold isDig at this
          simp only [Bool.and_eq_true, decide_eq_true_eq] at this
          omega
        simp only [val_cons, List.length_cons, Nat.add_sub_cancel]
        refine Nat.le_trans ?_ (val_ge r _)
        refine Nat.le_trans (Nat.le_of_eq (Nat.one_mul _).symm) (Nat.mul_le_mul_right _ (by omega))
    · have := val_lt m 0 hm
      simpa using this
  obtain ⟨a1, a2⟩ := len _ h1 h3 h4
  obtain ⟨b1, b2⟩ := len l h hne h0
  rw [h2] at a1 a2
  have hlen : (Lib.decDigits (val 0 l)).length = l.length := by
    have p1 := List.length_pos_iff.2 h3
    have p2 := List.length_pos_iff.2 hne
    rcases Nat.lt_trichotomy (Lib.decDigits (val 0 l)).length l.length with hlt | heq | hgt
    · have := b1 (by omega)
      have h5 := Nat.pow_le_pow_right (show 0 < 10 by omega) (show (Lib.decDigits (val 0 l)).length ≤ l.length - 1 by omega)
      omega
    · exact heq
    · have := a1 (by omega)
      have h5 := Nat.pow_le_pow_right (show 0 < 10 by omega) (show l.length ≤ (Lib.decDigits (val 0 l)).length - 1 by omega)
      omega
  exact (same_digits _ _ 0 0 hlen h1 h h2).1
theorem parse_digits : ∀ (l : List UInt8) (a : Nat), l.all isDig = true → val a l ≤ 1000000 → a ≤ 1000000 → Lib.parseUintM (2 ^ 64 - 1) a l = .ok (val a l)
  | [], a, _, _, _ => by rw [val_nil]; rfl
  | c :: r, a, h, hv, ha => by
    simp only [List.all_cons, Bool.and_eq_true] at h
    have hc := h.1
    unfold isDig at hc
    simp only [Bool.and_eq_true, decide_eq_true_eq] at hc
    have hg := val_ge r (a * 10 + (c.toNat - 48))
    simp only [val_nil, val_cons] at hv ⊢
    have h1 : a * 10 + (c.toNat - 48) ≤ 1000000 := by
      have := Nat.pow_pos (n := r.length) (show 0 < 10 by omega)
      have h2 : (a * 10 + (c.toNat - 48)) * 1 ≤ (a * 10 + (c.toNat - 48)) * 10 ^ r.length := Nat.mul_le_mul_left _ this
      omega
    unfold Lib.parseUintM
    rw [if_pos hc, if_neg (by omega), if_neg (by omega)]
    exact parse_digits r _ h.2 hv h1
theorem parse_dec (v : Nat) (hv : v ≤ 1000000) : Lib.parseIntB 64 (Lib.decDigits v) = .ok (v : Int) := by
  obtain ⟨h1, h2, h3, -⟩ := dec_spells v
  cases hd : Lib.decDigits v with
  | nil => exact absurd hd h3
  | cons c r =>
    rw [hd] at h1 h2
    have hc := h1
    simp only [List.all_cons, Bool.and_eq_true] at hc
    have hc := hc.1
    unfold isDig at hc
    simp only [Bool.and_eq_true, decide_eq_true_eq] at hc
    have hp := parse_digits (c :: r) 0 h1 (by omega) (by omega)
    unfold Lib.parseIntB
    simp only
    rw [if_neg (by omega)]
    unfold Lib.parseUintB
    rw [if_neg (by simp), hp, h2]
    simp only
    rw [if_neg (by omega), if_neg (by omega), if_neg (by omega)]
end Go.Proofs.YtfeniekapmbjjaaDoor
