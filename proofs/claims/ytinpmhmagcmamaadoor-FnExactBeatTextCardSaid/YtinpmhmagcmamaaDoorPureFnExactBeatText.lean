/- The program's BeatText answers what the reference's answers, for all arguments: the plain law. No condition. -/
import Derived.Test.YtinpmhmagcmamaaDoorPFnExactBeatTextx2
namespace Go.Proofs.YtinpmhmagcmamaaDoor.PFnExactBeatText
open Go.RowKit Go.Proofs.YtinpmhmagcmamaaDoorW.PrintWords Go.Proofs.YtinpmhmagcmamaaDoorW.PrintLast Go.Proofs.YtinpmhmagcmamaaDoorW.PrintMore
set_option linter.unusedSimpArgs false
set_option linter.unusedVariables false

theorem ev_eq {α : Type} {r : α} {g : Nat → Option α} (h : ∀ k, g k = some r) : Ev g r := ⟨0, fun k _ => h k⟩
theorem wnat {i : Nat} (h : i ≤ 1048577) : wrap64 ((i : Int) + 1) = ((i + 1 : Nat) : Int) := by unfold wrap64; omega
theorem rd_get {l : List Int} {i : Nat} (h : i < l.length) : rd l (i : Int) = l[i] := by simp [rd, List.getD_eq_getElem?_getD, List.getElem?_eq_getElem h]
theorem rd_mem {l : List Int} {i : Nat} (h : i < l.length) : rd l (i : Int) ∈ l := by rw [rd_get h]; exact List.getElem_mem h
theorem p_within (a b c : Int) : impl_within.f a b c = some (decide (b ≤ a) && decide (a ≤ c)) := by
  unfold impl_within.f; by_cases h : a ≥ b <;> simp [h]
theorem p_in (a b c : Int) : spec_l00In.f a b c = some (decide (b ≤ a) && decide (a ≤ c)) := by
  unfold spec_l00In.f; by_cases h : a ≥ b <;> simp [h]

/-! ### lists copied, held against each other -/
theorem half_set (xs : List Int) {i : Nat} (h : i < xs.length) : (xs.take i ++ List.replicate (xs.length - i) 0).set i (rd xs (i : Int)) = xs.take (i + 1) ++ List.replicate (xs.length - (i + 1)) 0 := by
  have e : xs.length - i = (xs.length - (i + 1)) + 1 := by omega
  rw [List.set_append_right _ _ (by rw [List.length_take]; omega), List.length_take, Nat.min_eq_left (by omega), Nat.sub_self, e, List.replicate_succ, List.set_cons_zero, List.take_succ_eq_append_getElem h, List.append_assoc, List.singleton_append, rd_get h]
theorem toBeat_l0 (xs : List Int) (hl : xs.length ≤ 1048576) (d : Nat) : ∀ i : Nat, i ≤ xs.length → xs.length - i = d → Ev (fun k => laws_toBeat.l0 k xs (xs.take i ++ List.replicate (xs.length - i) 0) (i : Int)) xs := by
  induction d with
  | zero =>
    intro i hi hd
    obtain rfl : i = xs.length := by omega
    refine Ev.step (f := fun _ => some xs) (fun k => ?_) (Ev.now _)
    simp only [laws_toBeat.l0]
    rw [if_neg (by omega), List.take_length, Nat.sub_self, List.replicate_zero, List.append_nil]
  | succ d ih =>
    intro i hi hd
    have hlt : i < xs.length := by omega
    refine Ev.step (fun k => ?_) (ih (i + 1) (by omega) (by omega))
    simp only [laws_toBeat.l0]
    rw [if_pos (by omega), if_pos (by omega), if_pos (by rw [List.length_append, List.length_take, List.length_replicate]; omega), wnat (by omega), Int.toNat_natCast, half_set xs hlt]
theorem toBeat (xs : List Int) (hl : xs.length ≤ 1048576) : Ev (fun k => laws_toBeat.f k xs) xs := by
  have h := toBeat_l0 xs hl xs.length 0 (by omega) (by omega)
  refine Ev.congr (fun k => ?_) h
  unfold laws_toBeat.f
  rw [if_pos (by omega), if_pos (by omega)]
  simp
theorem eqBeat_l0 (xs : List Int) (hl : xs.length ≤ 1048576) (d : Nat) : ∀ i : Nat, i ≤ xs.length → xs.length - i = d → Ev (fun k => laws_eqBeat.l0 k xs xs (i : Int)) true := by
  induction d with
  | zero =>
    intro i hi hd
    refine Ev.step (f := fun _ => some true) (fun k => ?_) (Ev.now _)
    simp only [laws_eqBeat.l0]
    rw [if_neg (by omega)]
  | succ d ih =>
    intro i hi hd
    refine Ev.step (fun k => ?_) (ih (i + 1) (by omega) (by omega))
    simp only [laws_eqBeat.l0]
    rw [if_pos (by omega), if_pos (by omega), if_pos (by omega), wnat (by omega)]
    simp only [if_true]
theorem eqBeat (xs : List Int) (hl : xs.length ≤ 1048576) : Ev (fun k => laws_eqBeat.f k xs xs) true := by
  refine Ev.congr (fun k => ?_) (eqBeat_l0 xs hl xs.length 0 (by omega) (by omega))
  unfold laws_eqBeat.f
  rw [if_pos rfl]
  rfl

/-! ### decimals, joined -/
theorem ba_ext {a b : ByteArray} (h : a.data.toList = b.data.toList) : a = b := by
  cases a; cases b; simp only [ByteArray.mk.injEq]; exact Array.toList_inj.1 h
theorem dec_small (i : Int) (h : i < 10) : dec i = ⟨#[UInt8.ofNat (48 + i.toNat)]⟩ := by
  unfold dec
  rw [Lib.decDigits, dif_pos (by omega)]
theorem dec_big (i : Int) (h : ¬ i < 10) : dec i = dec (i / 10) ++ ⟨#[UInt8.ofNat (48 + (i % 10).toNat)]⟩ := by
  refine ba_ext ?_
  unfold dec
  rw [Lib.decDigits, dif_neg (by omega)]
  have e1 : i.toNat / 10 = (i / 10).toNat := by omega
  have e2 : i.toNat % 10 = (i % 10).toNat := by omega
  rw [e1, e2]
  simp
theorem nums_one (n : Int) (h0 : 0 ≤ n) (h1 : n < 10) : strOfNums [(wrap64 (48 + n)) % 256] = ⟨#[UInt8.ofNat (48 + n.toNat)]⟩ := by
  have e : (wrap64 (48 + n)) % 256 = 48 + n := by unfold wrap64; omega
  rw [e]
  refine ba_ext ?_
  unfold strOfNums
  have e2 : (48 + n).toNat = 48 + n.toNat := by omega
  simp [e2]
theorem Decimal (i : Int) (h0 : 0 ≤ i) (h1 : i < 100) : Ev (fun k => spec_Decimal.f k i) (dec i) := by
  have key : ∀ j : Int, 0 ≤ j → j < 10 → Ev (fun k => spec_Decimal.f k j) (dec j) := fun j a b => by
    refine Ev.step (f := fun _ => some (dec j)) (fun k => ?_) (Ev.now _)
    simp only [spec_Decimal.f]
    rw [if_pos b, Int.tmod_eq_emod_of_nonneg a, Int.emod_eq_of_lt a b, nums_one j a b, dec_small j b]
  by_cases h : i < 10
  · exact key i h0 h
  · have e1 : wrap64 (Int.tdiv i 10) = i / 10 := by rw [Int.tdiv_eq_ediv_of_nonneg h0]; unfold wrap64; omega
    have e2 : Int.tmod i 10 = i % 10 := Int.tmod_eq_emod_of_nonneg h0
    have hs : (dec (i / 10)).size = 1 := by rw [dec_small _ (by omega)]; rfl
    refine Ev.step (f := fun k => (spec_Decimal.f k (i / 10)).bind fun t104 => if t104.size + 1 ≤ 9223372036854775807 then some (t104 ++ ⟨#[UInt8.ofNat (48 + (i % 10).toNat)]⟩) else none) (fun k => ?_) (Ev.bind (key (i / 10) (by omega) (by omega)) (ev_eq fun k => ?_))
    · simp only [spec_Decimal.f]
      rw [if_neg h, e1, e2]
      simp only [Option.bind_some]
      rw [nums_one (i % 10) (by omega) (by omega)]
      rfl
    · rw [if_pos (by omega), ← dec_big i h]
theorem dec_size (i : Int) (h0 : 0 ≤ i) (h1 : i < 100) : (dec i).size ≤ 2 := by
  by_cases h : i < 10
  · rw [dec_small i h]
    show 1 ≤ 2
    omega
  · rw [dec_big i h, dec_small (i / 10) (by omega), ByteArray.size_append]
    show 1 + 1 ≤ 2
    omega
def txt (xs : List Int) : ByteArray := joined (xs.map dec) ⟨#[32]⟩
theorem txt_nil : txt [] = ⟨#[]⟩ := rfl
theorem txt_one (x : Int) : txt [x] = dec x := by
  refine ba_ext ?_
  show (Lib.join [(dec x).data.toList] [32]).toArray.toList = _
  rw [Lib.join_one]
theorem txt_snoc (x : Int) (xs : List Int) (y : Int) : txt ((x :: xs) ++ [y]) = (txt (x :: xs) ++ ⟨#[32]⟩) ++ dec y := by
  refine ba_ext ?_
  unfold txt joined
  simp only [List.cons_append, List.map_cons, List.map_append, List.map_nil, Lib.join_cons, Lib.joinTail]
  simp
theorem txt_size : ∀ (xs : List Int), (∀ x ∈ xs, (0 : Int) ≤ x ∧ x < 100) → (txt xs).size ≤ 3 * xs.length
  | [], _ => by rw [txt_nil]; decide
  | x :: xs, h => by
    have key : ∀ n : Nat, n ≤ xs.length → (txt (x :: xs.take n)).size ≤ 3 * n + 2 := fun n => by
      induction n with
      | zero =>
        intro _
        rw [List.take_zero, txt_one]
        have := h x (by simp)
        have := dec_size x this.1 this.2
        omega
      | succ n ih =>
        intro hn
        have ih := ih (by omega)
        rw [List.take_succ_eq_append_getElem (by omega), ← List.cons_append, txt_snoc, ByteArray.size_append, ByteArray.size_append]
        have hm := h xs[n] (by simp)
        have := dec_size _ hm.1 hm.2
        have : (⟨#[32]⟩ : ByteArray).size = 1 := rfl
        omega
    have := key xs.length (Nat.le_refl _)
    rw [List.take_length] at this
    simp only [List.length_cons]
    omega

/-! ### the reference -/
def fine (x : Int) : Bool := decide (0 ≤ x) && decide (x ≤ 99)
def told (xs : List Int) : ByteArray := if xs.all fine = true ∧ xs.length ≤ 40 then txt xs else ⟨#[]⟩
theorem w16 {l : List Int} (hb : ∀ x ∈ l, (Lit.int .i16 x).wf = true) {i : Nat} (hi : i < l.length) : wrap64 (rd l (i : Int)) = rd l (i : Int) := by
  have hw := hb _ (rd_mem hi)
  have hh : IntKind.i16.min ≤ rd l (i : Int) ∧ rd l (i : Int) ≤ IntKind.i16.max := by simpa [Lit.wf] using hw
  rw [show IntKind.i16.min = -32768 by decide +kernel, show IntKind.i16.max = 32767 by decide +kernel] at hh
  unfold wrap64
  omega
theorem fine_at {l : List Int} (h : l.all fine = true) {i : Nat} (hi : i < l.length) : 0 ≤ rd l (i : Int) ∧ rd l (i : Int) < 100 := by
  have := List.all_eq_true.1 h _ (rd_mem hi)
  unfold fine at this
  simp only [Bool.and_eq_true, decide_eq_true_eq] at this
  omega
theorem take_txt {l : List Int} {i : Nat} (h0 : 0 < i) (hi : i < l.length) : txt (l.take (i + 1)) = (txt (l.take i) ++ ⟨#[32]⟩) ++ dec (rd l (i : Int)) := by
  rw [List.take_succ_eq_append_getElem hi, rd_get hi]
  cases l with
  | nil => simp at hi
  | cons x xs =>
    obtain ⟨j, rfl⟩ : ∃ j, i = j + 1 := ⟨i - 1, by omega⟩
    rw [List.take_succ_cons]
    exact txt_snoc x _ _
theorem text_l0 {l : List Int} (hb : ∀ x ∈ l, (Lit.int .i16 x).wf = true) (hl : l.length ≤ 40) (hf : l.all fine = true) : ∀ d i : Nat, i + d = l.length → Ev (fun k => spec_l05Text.l0 k l (txt (l.take i)) (i : Int)) (txt l)
  | 0, i, hi => by
    obtain rfl : i = l.length := by omega
    refine Ev.step (f := fun _ => some (txt l)) (fun k => ?_) (Ev.now _)
    simp only [spec_l05Text.l0]
    rw [if_neg (by omega), List.take_length]
  | d + 1, i, hi => by
    have hlt : i < l.length := by omega
    have hx := fine_at hf hlt
    have hs := txt_size (l.take i) (fun x hx => by
      have := List.all_eq_true.1 hf x (List.mem_of_mem_take hx)
      unfold fine at this
      simp only [Bool.and_eq_true, decide_eq_true_eq] at this
      omega)
    rw [List.length_take] at hs
    have hd := dec_size _ hx.1 hx.2
    have ih := text_l0 hb hl hf d (i + 1) (by omega)
    by_cases h0 : 0 < i
    · rw [take_txt h0 hlt] at ih
      refine Ev.step (f := fun k => (spec_Decimal.f k (rd l (i : Int))).bind fun t109 => (if (txt (l.take i) ++ (⟨#[32]⟩ : ByteArray)).size + t109.size ≤ 9223372036854775807 then (spec_l05Text.l0 k l ((txt (l.take i) ++ (⟨#[32]⟩ : ByteArray)) ++ t109) ((i + 1 : Nat) : Int)) else (none))) (fun k => ?_) (Ev.bind (Decimal _ hx.1 hx.2) (Ev.congr (fun k => ?_) ih))
      · simp only [spec_l05Text.l0]
        rw [if_pos (by omega), if_pos (by omega), if_pos (by omega), if_pos (by omega), w16 hb hlt, wnat (by omega)]
      · rw [if_pos (by rw [ByteArray.size_append]; have : (⟨#[32]⟩ : ByteArray).size = 1 := rfl; omega)]
    · obtain rfl : i = 0 := by omega
      have e1 : l.take (0 + 1) = [rd l ((0 : Nat) : Int)] := by
        rw [List.take_succ_eq_append_getElem hlt, rd_get hlt]; rfl
      rw [e1, txt_one] at ih
      refine Ev.step (f := fun k => (spec_Decimal.f k (rd l ((0 : Nat) : Int))).bind fun t111 => (if (⟨#[]⟩ : ByteArray).size + t111.size ≤ 9223372036854775807 then (spec_l05Text.l0 k l ((⟨#[]⟩ : ByteArray) ++ t111) ((0 + 1 : Nat) : Int)) else (none))) (fun k => ?_) (Ev.bind (Decimal _ hx.1 hx.2) (Ev.congr (fun k => ?_) ih))
      · simp only [spec_l05Text.l0]
        rw [if_pos (by omega), if_neg (by omega), if_pos (by omega), w16 hb hlt, wnat (by omega), List.take_zero, txt_nil]
      · have : (⟨#[]⟩ : ByteArray).size = 0 := rfl
        have e2 : (⟨#[]⟩ : ByteArray) ++ dec (rd l ((0 : Nat) : Int)) = dec (rd l ((0 : Nat) : Int)) := by refine ba_ext ?_; simp
        rw [if_pos (by omega), e2]
theorem told_not {l : List Int} {i : Nat} (hi : i < l.length) (h : fine (rd l (i : Int)) = false) : told l = ⟨#[]⟩ := by
  unfold told
  rw [if_neg]
  rintro ⟨h1, -⟩
  have := List.all_eq_true.1 h1 _ (rd_mem hi)
  rw [h] at this
  cases this
theorem told_long {l : List Int} (h : 40 < l.length) : told l = ⟨#[]⟩ := by
  unfold told
  rw [if_neg (by omega)]
theorem pre_next {l : List Int} {i : Nat} (hi : i < l.length) (hp : (l.take i).all fine = true) (h : fine (rd l (i : Int)) = true) : (l.take (i + 1)).all fine = true := by
  rw [List.take_succ_eq_append_getElem hi, List.all_append, hp]
  rw [rd_get hi] at h
  simp [h]
theorem spec_l0 {l : List Int} (hb : ∀ x ∈ l, (Lit.int .i16 x).wf = true) (hl : l.length ≤ 1048576) : ∀ d i : Nat, i + d = l.length → (l.take i).all fine = true → Ev (fun k => spec_BeatText.l0 k l (i : Int)) (told l)
  | 0, i, hi, hp => by
    obtain rfl : i = l.length := by omega
    rw [List.take_length] at hp
    by_cases h1 : 1 ≤ l.length ∧ l.length ≤ 40
    · have ht : told l = txt l := by unfold told; rw [if_pos ⟨hp, h1.2⟩]
      have h := text_l0 hb h1.2 hp l.length 0 (by omega)
      rw [ht]
      refine Ev.step (f := fun k => (spec_l05Text.f k l).bind fun t115 => (some t115)) (fun k => ?_) (Ev.bind (a := txt l) h (Ev.now _))
      simp only [spec_BeatText.l0]
      rw [if_neg (by omega), p_in, decide_eq_true (by omega), decide_eq_true (by omega)]
      simp only [Bool.and_true, Option.bind_some, if_true]
    · have ht : told l = ⟨#[]⟩ := by
        by_cases h0 : l.length = 0
        · obtain rfl := List.length_eq_zero_iff.1 h0
          rfl
        · exact told_long (by omega)
      rw [ht]
      refine Ev.step (f := fun _ => some ⟨#[]⟩) (fun k => ?_) (Ev.now _)
      have e : (decide ((1 : Int) ≤ (l.length : Int)) && decide ((l.length : Int) ≤ 40)) = false := by
        rw [Bool.and_eq_false_iff]
        by_cases h0 : 1 ≤ l.length
        · exact .inr (decide_eq_false (by omega))
        · exact .inl (decide_eq_false (by omega))
      simp only [spec_BeatText.l0]
      rw [if_neg (by omega), p_in, e]
      simp only [Option.bind_some, Bool.false_eq_true, if_false]
  | d + 1, i, hi, hp => by
    have hlt : i < l.length := by omega
    cases hf : fine (rd l (i : Int)) with
    | true =>
      refine Ev.step (fun k => ?_) (spec_l0 hb hl d (i + 1) (by omega) (pre_next hlt hp hf))
      unfold fine at hf
      simp only [spec_BeatText.l0]
      rw [if_pos (by omega), if_pos (by omega), w16 hb hlt, p_in, hf, wnat (by omega)]
      simp only [Option.bind_some, if_true]
    | false =>
      rw [told_not hlt hf]
      refine Ev.step (f := fun _ => some ⟨#[]⟩) (fun k => ?_) (Ev.now _)
      unfold fine at hf
      simp only [spec_BeatText.l0]
      rw [if_pos (by omega), if_pos (by omega), w16 hb hlt, p_in, hf]
      simp only [Option.bind_some, Bool.false_eq_true, if_false]
theorem joined_txt {l : List Int} (hl : l.length ≤ 40) (hf : l.all fine = true) : strings_Join.f (l.map dec) (⟨#[32]⟩ : ByteArray) = some (txt l) := by
  have hs := txt_size l (fun x hx => by
    have := List.all_eq_true.1 hf x hx
    unfold fine at this
    simp only [Bool.and_eq_true, decide_eq_true_eq] at this
    omega)
  unfold strings_Join.f
  rw [if_pos ⟨by rw [List.length_map]; omega, by show (txt l).size ≤ _; omega⟩]
  rfl
theorem impl_l0 {l : List Int} (hb : ∀ x ∈ l, (Lit.int .i16 x).wf = true) (hl : l.length ≤ 1048576) : ∀ d i : Nat, i + d = l.length → (l.take i).all fine = true → (0 < i → l.length ≤ 40) → Ev (fun k => impl_BeatText.l0 k l ((l.take i).map dec) l (l.length : Int) (i : Int)) (told l)
  | 0, i, hi, hp, hq => by
    obtain rfl : i = l.length := by omega
    have h40 : l.length ≤ 40 := by
      by_cases h : 0 < l.length
      · exact hq h
      · omega
    rw [List.take_length] at hp ⊢
    have ht : told l = txt l := by unfold told; rw [if_pos ⟨hp, h40⟩]
    rw [ht]
    refine Ev.step (f := fun _ => some (txt l)) (fun k => ?_) (Ev.now _)
    simp only [impl_BeatText.l0]
    rw [if_neg (by omega), joined_txt h40 hp]
    rfl
  | d + 1, i, hi, hp, hq => by
    have hlt : i < l.length := by omega
    cases hf : fine (rd l (i : Int)) with
    | true =>
      by_cases h40 : l.length ≤ 40
      · have hx : 0 ≤ rd l (i : Int) ∧ rd l (i : Int) < 100 := by
          unfold fine at hf
          simp only [Bool.and_eq_true, decide_eq_true_eq] at hf
          omega
        have hd : impl_decimal_int16.f (rd l (i : Int)) = some (dec (rd l (i : Int))) := by unfold impl_decimal_int16.f; rw [if_pos hx]
        have ih := impl_l0 hb hl d (i + 1) (by omega) (pre_next hlt hp hf) (fun _ => h40)
        rw [List.take_succ_eq_append_getElem hlt, List.map_append, List.map_cons, List.map_nil, ← rd_get hlt] at ih
        refine Ev.step (fun k => ?_) ih
        unfold fine at hf
        simp only [impl_BeatText.l0]
        rw [if_pos (by omega), if_pos (by omega), if_pos (by omega), w16 hb hlt, p_within, hf, hd, wnat (by omega)]
        simp only [Option.bind_some, if_true]
        rw [if_neg (by omega), if_pos (by rw [List.length_map, List.length_take]; omega)]
      · rw [told_long (by omega)]
        refine Ev.step (f := fun _ => some ⟨#[]⟩) (fun k => ?_) (Ev.now _)
        unfold fine at hf
        simp only [impl_BeatText.l0]
        rw [if_pos (by omega), if_pos (by omega), if_pos (by omega), w16 hb hlt, p_within, hf]
        simp only [Option.bind_some, if_true]
        rw [if_pos (by omega)]
    | false =>
      rw [told_not hlt hf]
      refine Ev.step (f := fun _ => some ⟨#[]⟩) (fun k => ?_) (Ev.now _)
      unfold fine at hf
      simp only [impl_BeatText.l0]
      rw [if_pos (by omega), if_pos (by omega), if_pos (by omega), w16 hb hlt, p_within, hf]
      simp only [Option.bind_some, Bool.false_eq_true, if_false]
end Go.Proofs.YtinpmhmagcmamaaDoor.PFnExactBeatText
namespace Go.Proofs.YtinpmhmagcmamaaDoor.Pure
open Go.RowKit Go.Proofs.YtinpmhmagcmamaaDoor.PFnExactBeatText Go.Proofs.YtinpmhmagcmamaaDoorW.PrintWords Go.Proofs.YtinpmhmagcmamaaDoorW.PrintLast Go.Proofs.YtinpmhmagcmamaaDoorW.PrintMore
theorem FnExactBeatText : laws_FnExactBeatText.Pure := by
  intro l _ _ hb
  refine Ev.rounds ?_
  unfold laws_FnExactBeatText.f
  by_cases h1 : (l.length : Int) > 1048576
  · simp only [h1, if_true]; exact Ev.now _
  simp only [h1, if_false]
  have hl : l.length ≤ 1048576 := by omega
  have hs : Ev (fun k => spec_BeatText.f k l) (told l) := spec_l0 hb hl l.length 0 (by omega) rfl
  have hi : Ev (fun k => impl_BeatText.f k l) (told l) := impl_l0 hb hl l.length 0 (by omega) rfl (fun h => absurd h (Nat.lt_irrefl _))
  refine Ev.bind (toBeat l hl) (Ev.bind hs (Ev.bind (toBeat l hl) (Ev.bind hi ?_)))
  simp only [if_true]
  refine Ev.bind (toBeat l hl) (Ev.bind (eqBeat l hl) ?_)
  simp only [if_true]
  exact Ev.now _
end Go.Proofs.YtinpmhmagcmamaaDoor.Pure
