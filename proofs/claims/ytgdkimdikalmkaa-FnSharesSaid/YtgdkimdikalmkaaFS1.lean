/- Awards and shares, by the program and by the reference: the plain functions that FnShares needs. No condition but the lists' lengths. -/
import Derived.Test.YtgdkimdikalmkaaIntFnShares
import Derived.Test.YtgdkimdikalmkaaSL
namespace Go.Proofs.Ytgdkimdikalmkaa.PFnShares
open Go.RowKit Go.Proofs.YtgdkimdikalmkaaW.PrintWords Go.Proofs.YtgdkimdikalmkaaW.PrintLast Go.Proofs.YtgdkimdikalmkaaW.PrintMore
set_option linter.unusedSimpArgs false
set_option linter.unusedVariables false
namespace EA

/-- The lesser ones of each claim and a number; their sum. -/
def les (cl : List Int) (n : Int) : List Int := cl.map fun c => mn c n
def lev (cl : List Int) (n : Int) : Int := wsum (les cl n) cl.length
theorem les_len (cl : List Int) (n : Int) : (les cl n).length = cl.length := by simp [les]
theorem les_rd {cl : List Int} {i : Nat} (h : i < cl.length) (n : Int) : rd (les cl n) (i : Int) = mn (rd cl (i : Int)) n := by
  rw [rd_get (by rw [les_len]; exact h), rd_get h]; simp [les]
structure Small (cl : List Int) : Prop where
  len : cl.length ≤ 100
  at' : ∀ i : Nat, i < cl.length → 0 ≤ rd cl (i : Int) ∧ rd cl (i : Int) ≤ 1000000
theorem lev_bd {cl : List Int} (h : Small cl) {n : Int} (hn : 0 ≤ n) : ∀ i : Nat, i ≤ cl.length → 0 ≤ wsum (les cl n) i ∧ wsum (les cl n) i ≤ 1000000 * (i : Int)
  | 0, _ => ⟨by simp [wsum], by simp [wsum]⟩
  | i + 1, hi => by
    obtain ⟨a, b⟩ := lev_bd h hn i (by omega)
    obtain ⟨c, d⟩ := h.at' i (by omega)
    have hl := h.len
    simp only [wsum]
    rw [les_rd (by omega)]
    have hm : 0 ≤ mn (rd cl (i : Int)) n ∧ mn (rd cl (i : Int)) n ≤ 1000000 := by unfold mn; split <;> omega
    unfold wrap64
    omega
theorem lev_mono {cl : List Int} (h : Small cl) {n m : Int} (hn : 0 ≤ n) (hm : n ≤ m) : ∀ i : Nat, i ≤ cl.length → wsum (les cl n) i ≤ wsum (les cl m) i
  | 0, _ => by simp [wsum]
  | i + 1, hi => by
    have ih := lev_mono h hn hm i (by omega)
    obtain ⟨a, b⟩ := lev_bd h hn i (by omega)
    obtain ⟨a2, b2⟩ := lev_bd h (n := m) (by omega) i (by omega)
    obtain ⟨c, d⟩ := h.at' i (by omega)
    have hl := h.len
    simp only [wsum]
    rw [les_rd (by omega), les_rd (by omega)]
    have h1 : 0 ≤ mn (rd cl (i : Int)) n ∧ mn (rd cl (i : Int)) n ≤ 1000000 := by unfold mn; split <;> omega
    have h2 : mn (rd cl (i : Int)) n ≤ mn (rd cl (i : Int)) m ∧ mn (rd cl (i : Int)) m ≤ 1000000 := by unfold mn; split <;> split <;> omega
    unfold wrap64
    omega
theorem lev_zero {cl : List Int} (h : Small cl) : ∀ i : Nat, i ≤ cl.length → wsum (les cl 0) i = 0
  | 0, _ => rfl
  | i + 1, hi => by
    have ih := lev_zero h i (by omega)
    obtain ⟨c, d⟩ := h.at' i (by omega)
    simp only [wsum]
    rw [les_rd (by omega), ih]
    unfold mn wrap64
    split <;> omega
theorem les_top {cl : List Int} (h : Small cl) : les cl 1000000 = cl := by
  refine List.ext_getElem (les_len _ _) fun i h1 h2 => ?_
  have := h.at' i h2
  rw [rd_get h2] at this
  simp only [les, List.getElem_map]
  unfold mn
  rw [if_neg (by omega)]

theorem level_l0 (cl : List Int) (n : Int) (hl : cl.length ≤ 1048576) (d : Nat) : ∀ i : Nat, i ≤ cl.length → cl.length - i = d → Ev (fun k => spec_l06Level.l0 k cl n (wsum (les cl n) i) (i : Int)) (lev cl n) := by
  induction d with
  | zero =>
    intro i hi hd
    obtain rfl : i = cl.length := by omega
    refine Ev.step (f := fun _ => some _) (fun k => ?_) (Ev.now _)
    simp only [spec_l06Level.l0]
    rw [if_neg (by omega)]
    rfl
  | succ d ih =>
    intro i hi hd
    refine Ev.step (fun k => ?_) (ih (i + 1) (by omega) (by omega))
    simp only [spec_l06Level.l0]
    rw [if_pos (by omega), if_pos (by omega), min_s, wnat (by omega)]
    simp only [Option.bind_some, wsum]
    rw [les_rd (by omega)]
theorem level (cl : List Int) (n : Int) (hl : cl.length ≤ 1048576) : Ev (fun k => spec_l06Level.f k cl n) (lev cl n) :=
  level_l0 cl n hl cl.length 0 (by omega) (by omega)
theorem les_snoc (cl : List Int) (n : Int) {i : Nat} (h : i < cl.length) : les (cl.take i) n ++ [mn (rd cl (i : Int)) n] = les (cl.take (i + 1)) n := by
  rw [List.take_succ_eq_append_getElem h, rd_get h]
  unfold les
  rw [List.map_append]
  rfl
theorem lesser_l0 (cl : List Int) (n : Int) (hl : cl.length ≤ 1048576) (d : Nat) : ∀ i : Nat, i ≤ cl.length → cl.length - i = d → Ev (fun k => impl_lesser.l0 k n (les (cl.take i) n) cl (cl.length : Int) (i : Int)) (les cl n) := by
  induction d with
  | zero =>
    intro i hi hd
    obtain rfl : i = cl.length := by omega
    refine Ev.step (f := fun _ => some _) (fun k => ?_) (Ev.now _)
    simp only [impl_lesser.l0]
    rw [if_neg (by omega), List.take_length]
  | succ d ih =>
    intro i hi hd
    refine Ev.step (fun k => ?_) (ih (i + 1) (by omega) (by omega))
    simp only [impl_lesser.l0]
    rw [if_pos (by omega), if_pos (by omega), if_pos (by omega), if_pos (by rw [les_len, List.length_take]; omega), wnat (by omega), les_snoc cl n (by omega)]
theorem lesser (cl : List Int) (n : Int) (hl : cl.length ≤ 1048576) : Ev (fun k => impl_lesser.f k cl n) (les cl n) :=
  lesser_l0 cl n hl cl.length 0 (by omega) (by omega)

/-- The awards at a level, while something is left. -/
def award (low : Int) : List Int → Int → List Int
  | [], _ => []
  | c :: cs, left => if c > low then (if left > 0 then wrap64 (mn c low + 1) :: award low cs (left - 1) else mn c low :: award low cs left) else mn c low :: award low cs left
theorem award_len (low : Int) : ∀ (cs : List Int) (left : Int), (award low cs left).length = cs.length
  | [], _ => rfl
  | c :: cs, left => by
    simp only [award]
    split
    · split <;> simp [award_len low cs]
    · simp [award_len low cs]

theorem s_l1 (cl : List Int) (hl : cl.length ≤ 1048576) (low : Int) (d : Nat) : ∀ (i : Nat) (left : Int) (out : List Int), i ≤ cl.length → cl.length - i = d → out.length = i → 0 ≤ left → left ≤ 1000000 →
    Ev (fun k => spec_EqualAwards.l1 k cl low left out (i : Int)) (out ++ award low (cl.drop i) left, 0) := by
  induction d with
  | zero =>
    intro i left out hi hd ho h0 h1
    obtain rfl : i = cl.length := by omega
    refine Ev.step (f := fun _ => some _) (fun k => ?_) (Ev.now _)
    simp only [spec_EqualAwards.l1]
    rw [if_neg (by omega), List.drop_length, award, List.append_nil]
  | succ d ih =>
    intro i left out hi hd ho h0 h1
    have hlt : i < cl.length := by omega
    rw [drop_rd cl hlt, award]
    have hlim : out.length < 17592186044416 := by omega
    by_cases hc : rd cl (i : Int) > low
    · by_cases hz : left > 0
      · have hw : wrap64 (left - 1) = left - 1 := by unfold wrap64; omega
        have := ih (i + 1) (left - 1) (out ++ [wrap64 (mn (rd cl (i : Int)) low + 1)]) (by omega) (by omega) (by simp [ho]) (by omega) (by omega)
        rw [if_pos hc, if_pos hz]
        rw [List.append_assoc, List.singleton_append] at this
        refine Ev.step (fun k => ?_) this
        simp only [spec_EqualAwards.l1]
        rw [if_pos (by omega), if_pos (by omega), min_s]
        simp only [Option.bind_some]
        rw [if_pos hc, if_pos hz, if_pos hlim, wnat (by omega), hw]
      · have := ih (i + 1) left (out ++ [mn (rd cl (i : Int)) low]) (by omega) (by omega) (by simp [ho]) (by omega) (by omega)
        rw [if_pos hc, if_neg hz]
        rw [List.append_assoc, List.singleton_append] at this
        refine Ev.step (fun k => ?_) this
        simp only [spec_EqualAwards.l1]
        rw [if_pos (by omega), if_pos (by omega), min_s]
        simp only [Option.bind_some]
        rw [if_pos hc, if_neg hz, if_pos hlim, wnat (by omega)]
    · have := ih (i + 1) left (out ++ [mn (rd cl (i : Int)) low]) (by omega) (by omega) (by simp [ho]) (by omega) (by omega)
      rw [if_neg hc]
      rw [List.append_assoc, List.singleton_append] at this
      refine Ev.step (fun k => ?_) this
      simp only [spec_EqualAwards.l1]
      rw [if_pos (by omega), if_pos (by omega), min_s]
      simp only [Option.bind_some]
      rw [if_neg hc, if_pos hlim, wnat (by omega)]
theorem i_l1 (cl : List Int) (hl : cl.length ≤ 1048576) (low : Int) (d : Nat) : ∀ (i : Nat) (left : Int) (out : List Int), i ≤ cl.length → cl.length - i = d → out.length = i → 0 ≤ left → left ≤ 1000000 →
    Ev (fun k => impl_EqualAwards.l1 k low (out ++ les (cl.drop i) low) left cl (cl.length : Int) (i : Int)) (out ++ award low (cl.drop i) left, 0) := by
  induction d with
  | zero =>
    intro i left out hi hd ho h0 h1
    obtain rfl : i = cl.length := by omega
    refine Ev.step (f := fun _ => some _) (fun k => ?_) (Ev.now _)
    simp only [impl_EqualAwards.l1]
    rw [if_neg (by omega), List.drop_length, award, les, List.map_nil]
  | succ d ih =>
    intro i left out hi hd ho h0 h1
    have hlt : i < cl.length := by omega
    rw [drop_rd cl hlt, award]
    have el : les (rd cl (i : Int) :: cl.drop (i + 1)) low = mn (rd cl (i : Int)) low :: les (cl.drop (i + 1)) low := rfl
    have er : rd (out ++ (mn (rd cl (i : Int)) low :: les (cl.drop (i + 1)) low)) (i : Int) = mn (rd cl (i : Int)) low := by
      simp only [rd, Int.toNat_natCast]
      rw [List.getD_eq_getElem?_getD, List.getElem?_append_right (by omega), ho, Nat.sub_self]
      rfl
    rw [el]
    by_cases hc : rd cl (i : Int) > low
    · by_cases hz : left > 0
      · have hw : wrap64 (left - 1) = left - 1 := by unfold wrap64; omega
        have := ih (i + 1) (left - 1) (out ++ [wrap64 (mn (rd cl (i : Int)) low + 1)]) (by omega) (by omega) (by simp [ho]) (by omega) (by omega)
        rw [if_pos hc, if_pos hz]
        rw [List.append_assoc, List.singleton_append, List.append_assoc, List.singleton_append] at this
        refine Ev.step (fun k => ?_) this
        simp only [impl_EqualAwards.l1]
        rw [if_pos (by omega), if_pos (by omega), if_pos (by omega), if_pos hc, if_pos hz, if_pos (by rw [List.length_append]; simp; omega), er, wnat (by omega), hw, Int.toNat_natCast, List.set_append_right _ _ (by omega), ho, Nat.sub_self, List.set_cons_zero]
      · have := ih (i + 1) left (out ++ [mn (rd cl (i : Int)) low]) (by omega) (by omega) (by simp [ho]) (by omega) (by omega)
        rw [if_pos hc, if_neg hz]
        rw [List.append_assoc, List.singleton_append, List.append_assoc, List.singleton_append] at this
        refine Ev.step (fun k => ?_) this
        simp only [impl_EqualAwards.l1]
        rw [if_pos (by omega), if_pos (by omega), if_pos (by omega), if_pos hc, if_neg hz, wnat (by omega)]
    · have := ih (i + 1) left (out ++ [mn (rd cl (i : Int)) low]) (by omega) (by omega) (by simp [ho]) (by omega) (by omega)
      rw [if_neg hc]
      rw [List.append_assoc, List.singleton_append, List.append_assoc, List.singleton_append] at this
      refine Ev.step (fun k => ?_) this
      simp only [impl_EqualAwards.l1]
      rw [if_pos (by omega), if_pos (by omega), if_pos (by omega), if_neg hc, wnat (by omega)]

/-- The level: the money is enough for it, and not for one more. -/
structure Level (cl : List Int) (m n : Int) : Prop where
  n0 : 0 ≤ n
  n1 : n < 1000000
  le : lev cl n ≤ m
  gt : m < lev cl (n + 1)
theorem level_one {cl : List Int} (h : Small cl) {m n n' : Int} (a : Level cl m n) (b : Level cl m n') : n = n' := by
  rcases Int.lt_trichotomy n n' with hlt | heq | hgt
  · have := lev_mono h (n := n + 1) (m := n') (by have := a.n0; omega) (by omega) cl.length (Nat.le_refl _)
    have h1 := a.gt; have h2 := b.le
    unfold lev at h1 h2
    omega
  · exact heq
  · have := lev_mono h (n := n' + 1) (m := n) (by have := b.n0; omega) (by omega) cl.length (Nat.le_refl _)
    have h1 := b.gt; have h2 := a.le
    unfold lev at h1 h2
    omega
def fin (cl : List Int) (m n : Int) : List Int × Int := (award n cl (m - lev cl n), 0)
theorem left_ok {cl : List Int} (h : Small cl) {m n : Int} (a : Level cl m n) (hm : m ≤ 1000000) : 0 ≤ m - lev cl n ∧ m - lev cl n ≤ 1000000 ∧ wrap64 (m - lev cl n) = m - lev cl n := by
  have h1 := a.le
  have h2 := lev_bd h a.n0 cl.length (Nat.le_refl _)
  unfold lev at *
  unfold wrap64
  omega
theorem s_end {cl : List Int} (h : Small cl) {m n : Int} (a : Level cl m n) (hm : m ≤ 1000000) : Ev (fun k => (spec_l06Level.f k cl n).bind fun t130 => (spec_EqualAwards.l1 k cl n (wrap64 (m - t130)) (([] : List Int)) 0)) (fin cl m n) := by
  obtain ⟨l0, l1, lw⟩ := left_ok h a hm
  have hl := h.len
  refine Ev.bind (level cl n (by omega)) ?_
  rw [lw]
  exact s_l1 cl (by omega) n cl.length 0 _ [] (by omega) (by omega) rfl l0 l1
theorem i_end {cl : List Int} (h : Small cl) {m n : Int} (a : Level cl m n) (hm : m ≤ 1000000) : Ev (fun k => (impl_lesser.f k cl n).bind fun t168 => ((impl_total.f k t168).bind fun t171 => (impl_EqualAwards.l1 k n t168 (wrap64 (m - t171)) cl (cl.length : Int) 0))) (fin cl m n) := by
  obtain ⟨l0, l1, lw⟩ := left_ok h a hm
  have hl := h.len
  refine Ev.bind (lesser cl n (by omega)) (Ev.bind (total _ (by rw [les_len]; omega)) ?_)
  rw [les_len]
  show Ev (fun k => impl_EqualAwards.l1 k n (les cl n) (wrap64 (m - lev cl n)) cl (cl.length : Int) 0) _
  rw [lw]
  exact i_l1 cl (by omega) n cl.length 0 _ [] (by omega) (by omega) rfl l0 l1

theorem s_l0 {cl : List Int} (h : Small cl) {m n : Int} (a : Level cl m n) (hm : m ≤ 1000000) (d : Nat) : ∀ low high : Int, 0 ≤ low → low ≤ high → high ≤ 1000000 → (high - low).toNat ≤ d → lev cl low ≤ m → (high = 1000000 ∨ m < lev cl (high + 1)) → m < lev cl 1000000 →
    Ev (fun k => spec_EqualAwards.l0 k cl m low high) (fin cl m n) := by
  have hl := h.len
  induction d with
  | zero =>
    intro low high h0 h1 h2 hd hle hgt htop
    obtain rfl : low = high := by omega
    have hne : low ≠ 1000000 := by intro e; rw [e] at hle; omega
    have hlv : Level cl m low := ⟨h0, by omega, hle, by rcases hgt with e | e; (· exact absurd e hne); (· exact e)⟩
    obtain rfl := level_one h a hlv
    refine Ev.step (fun k => ?_) (s_end h a hm)
    simp only [spec_EqualAwards.l0]
    rw [if_neg (by omega)]
  | succ d ih =>
    intro low high h0 h1 h2 hd hle hgt htop
    by_cases he : low < high
    · have hw : wrap64 (Int.tdiv (wrap64 (wrap64 (low + high) + 1)) 2) = (low + high + 1) / 2 := by
        have e1 : wrap64 (wrap64 (low + high) + 1) = low + high + 1 := by unfold wrap64; omega
        rw [e1, Int.tdiv_eq_ediv_of_nonneg (by omega)]
        unfold wrap64
        omega
      have hw2 : wrap64 ((low + high + 1) / 2 - 1) = (low + high + 1) / 2 - 1 := by unfold wrap64; omega
      by_cases hc : lev cl ((low + high + 1) / 2) ≤ m
      · have := ih ((low + high + 1) / 2) high (by omega) (by omega) h2 (by omega) hc hgt htop
        refine Ev.step (f := fun k => (spec_l06Level.f k cl ((low + high + 1) / 2)).bind fun t129 => (if t129 ≤ m then (spec_EqualAwards.l0 k cl m ((low + high + 1) / 2) high) else (spec_EqualAwards.l0 k cl m low ((low + high + 1) / 2 - 1)))) (fun k => ?_) (Ev.bind (level cl _ (by omega)) (Ev.congr (fun k => ?_) this))
        · simp only [spec_EqualAwards.l0]
          rw [if_pos he, hw, hw2]
        · rw [if_pos hc]
      · have := ih low ((low + high + 1) / 2 - 1) (by omega) (by omega) (by omega) (by omega) hle (.inr (by rw [Int.sub_add_cancel]; omega)) htop
        refine Ev.step (f := fun k => (spec_l06Level.f k cl ((low + high + 1) / 2)).bind fun t129 => (if t129 ≤ m then (spec_EqualAwards.l0 k cl m ((low + high + 1) / 2) high) else (spec_EqualAwards.l0 k cl m low ((low + high + 1) / 2 - 1)))) (fun k => ?_) (Ev.bind (level cl _ (by omega)) (Ev.congr (fun k => ?_) this))
        · simp only [spec_EqualAwards.l0]
          rw [if_pos he, hw, hw2]
        · rw [if_neg hc]
    · exact ih low high h0 h1 h2 (by omega) hle hgt htop
theorem i_l0 {cl : List Int} (h : Small cl) {m n : Int} (a : Level cl m n) (hm : m ≤ 1000000) (d : Nat) : ∀ low high : Int, 0 ≤ low → low < high → high ≤ 1000000 → (high - low).toNat ≤ d + 1 → lev cl low ≤ m → m < lev cl high →
    Ev (fun k => impl_EqualAwards.l0 k cl m low high) (fin cl m n) := by
  have hl := h.len
  induction d with
  | zero =>
    intro low high h0 h1 h2 hd hle hgt
    obtain rfl : high = low + 1 := by omega
    have hlv : Level cl m low := ⟨h0, by omega, hle, hgt⟩
    obtain rfl := level_one h a hlv
    have hw : wrap64 (n + 1 - n) = 1 := by unfold wrap64; omega
    refine Ev.step (fun k => ?_) (i_end h a hm)
    simp only [impl_EqualAwards.l0]
    rw [hw, if_neg (by omega)]
  | succ d ih =>
    intro low high h0 h1 h2 hd hle hgt
    by_cases he : high - low > 1
    · have hw0 : wrap64 (high - low) = high - low := by unfold wrap64; omega
      have hw : wrap64 (Int.tdiv (wrap64 (low + high)) 2) = (low + high) / 2 := by
        have e1 : wrap64 (low + high) = low + high := by unfold wrap64; omega
        rw [e1, Int.tdiv_eq_ediv_of_nonneg (by omega)]
        unfold wrap64
        omega
      have step : ∀ r, Ev (fun k => if lev cl ((low + high) / 2) ≤ m then (impl_EqualAwards.l0 k cl m ((low + high) / 2) high) else (impl_EqualAwards.l0 k cl m low ((low + high) / 2))) r → Ev (fun k => impl_EqualAwards.l0 k cl m low high) r := by
        intro r hr
        refine Ev.step (f := fun k => (impl_lesser.f k cl ((low + high) / 2)).bind fun t164 => ((impl_total.f k t164).bind fun t167 => (if t167 ≤ m then (impl_EqualAwards.l0 k cl m ((low + high) / 2) high) else (impl_EqualAwards.l0 k cl m low ((low + high) / 2))))) (fun k => ?_) (Ev.bind (lesser cl _ (by omega)) (Ev.bind (total _ (by rw [les_len]; omega)) ?_))
        · simp only [impl_EqualAwards.l0]
          rw [hw0, if_pos he, hw]
        · rw [les_len]
          exact hr
      by_cases hc : lev cl ((low + high) / 2) ≤ m
      · refine step _ (Ev.congr (fun k => ?_) (ih ((low + high) / 2) high (by omega) (by omega) h2 (by omega) hc hgt))
        rw [if_pos hc]
      · refine step _ (Ev.congr (fun k => ?_) (ih low ((low + high) / 2) h0 (by omega) (by omega) (by omega) hle (by omega)))
        rw [if_neg hc]
    · exact ih low high h0 h1 h2 (by omega) hle hgt
theorem level_ex {cl : List Int} {m : Int} (d : Nat) : ∀ low high : Int, 0 ≤ low → low < high → high ≤ 1000000 → (high - low).toNat ≤ d + 1 → lev cl low ≤ m → m < lev cl high → ∃ n, Level cl m n := by
  induction d with
  | zero =>
    intro low high h0 h1 h2 hd hle hgt
    obtain rfl : high = low + 1 := by omega
    exact ⟨low, h0, by omega, hle, hgt⟩
  | succ d ih =>
    intro low high h0 h1 h2 hd hle hgt
    by_cases hc : lev cl (high - 1) ≤ m
    · exact ⟨high - 1, by omega, by omega, hc, by rw [Int.sub_add_cancel]; exact hgt⟩
    · by_cases he : low < high - 1
      · exact ih low (high - 1) h0 he (by omega) (by omega) hle (by omega)
      · obtain rfl : low = high - 1 := by omega
        omega
theorem both (cl : List Int) (m : Int) (h1 : cl.length ≤ 1048576) : ∃ r, r.1.length ≤ 1048576 ∧ Ev (fun f => spec_EqualAwards.f f cl m) r ∧ Ev (fun f => impl_EqualAwards.f f cl m) r := by
  unfold spec_EqualAwards.f impl_EqualAwards.f
  cases hm : okAll cl m with
  | false =>
    refine ⟨([], 2), by simp, Ev.bind (amounts cl m h1) (ev_eq fun _ => by rw [hm]; rfl), ev_eq fun _ => ?_⟩
    rw [areClaims, hm]; rfl
  | true =>
    have hs : Small cl := ⟨okAll_len hm, fun i hi => okAll_at hm hi⟩
    obtain ⟨m0, m1⟩ := okAll_m hm
    have hl := hs.len
    have etop : lev cl 1000000 = wsum cl cl.length := by unfold lev; rw [les_top hs]
    by_cases ht : wsum cl cl.length ≤ m
    · refine ⟨(cl, 0), h1, Ev.bind (amounts cl m h1) (Ev.congr (f := fun k => (spec_l06Sum.f k cl).bind fun t125 => (if t125 ≤ m then ((spec_l00Own.f cl).bind fun t126 => (some (t126, 0))) else (spec_EqualAwards.l0 k cl m 0 1000000))) (fun k => ?_) (Ev.bind (l06Sum cl h1) (ev_eq fun k => ?_))),
        Ev.congr (f := fun k => (impl_total.f k cl).bind fun t160 => (if t160 ≤ m then ((impl_lesser.f k cl 1000000).bind fun t161 => (some (t161, 0))) else (impl_EqualAwards.l0 k cl m 0 1000000))) (fun k => ?_) (Ev.bind (total cl h1) (Ev.congr (f := fun k => (impl_lesser.f k cl 1000000).bind fun t161 => (some (t161, 0))) (fun k => ?_) (Ev.bind (lesser cl 1000000 h1) (ev_eq fun k => ?_))))⟩
      · rw [hm, if_pos rfl]
      · rw [if_pos ht]
        unfold spec_l00Own.f
        simp only [Option.bind_some, List.nil_append, List.length_nil, Nat.zero_add]
        rw [if_pos (by omega)]
        rfl
      · rw [areClaims, hm]; rfl
      · rw [if_pos ht]
      · rw [les_top hs]
    · obtain ⟨n, a⟩ := level_ex (cl := cl) (m := m) 999999 0 1000000 (by omega) (by omega) (by omega) (by omega) (by unfold lev; rw [lev_zero hs _ (Nat.le_refl _)]; exact m0) (by rw [etop]; omega)
      refine ⟨fin cl m n, by unfold fin; rw [award_len]; exact h1, Ev.bind (amounts cl m h1) (Ev.congr (f := fun k => (spec_l06Sum.f k cl).bind fun t125 => (if t125 ≤ m then ((spec_l00Own.f cl).bind fun t126 => (some (t126, 0))) else (spec_EqualAwards.l0 k cl m 0 1000000))) (fun k => ?_) (Ev.bind (l06Sum cl h1) (Ev.congr (fun k => ?_) (s_l0 hs a m1 1000000 0 1000000 (by omega) (by omega) (by omega) (by omega) (by unfold lev; rw [lev_zero hs _ (Nat.le_refl _)]; exact m0) (.inl rfl) (by rw [etop]; omega))))),
        Ev.congr (f := fun k => (impl_total.f k cl).bind fun t160 => (if t160 ≤ m then ((impl_lesser.f k cl 1000000).bind fun t161 => (some (t161, 0))) else (impl_EqualAwards.l0 k cl m 0 1000000))) (fun k => ?_) (Ev.bind (total cl h1) (Ev.congr (fun k => ?_) (i_l0 hs a m1 1000000 0 1000000 (by omega) (by omega) (by omega) (by omega) (by unfold lev; rw [lev_zero hs _ (Nat.le_refl _)]; exact m0) (by rw [etop]; omega))))⟩
      · rw [hm, if_pos rfl]
      · rw [if_neg ht]
      · rw [areClaims, hm]; rfl
      · rw [if_neg ht]
end EA
namespace CA
/-- An award that is cut (a), beside a greater one (b). -/
def Bad (cl aw : List Int) (a b : Nat) : Prop := rd aw (a : Int) < rd cl (a : Int) ∧ rd aw (b : Int) > wrap64 (rd aw (a : Int) + 1)
def fin (cl aw : List Int) (m : Int) : Bool × Int := (wsum aw aw.length == mn m (wsum cl cl.length), 0)

theorem i_l2 (cl aw : List Int) (m : Int) (he : aw.length = cl.length) (hl : cl.length ≤ 1048576) (i : Nat) (hi : i < aw.length) (r : Bool × Int) (d : Nat) : ∀ k : Nat, k ≤ aw.length → aw.length - k = d →
    ((∃ k' : Nat, k ≤ k' ∧ k' < aw.length ∧ Bad cl aw i k') → r = (false, 0)) → ((∀ k' : Nat, k ≤ k' → k' < aw.length → ¬ Bad cl aw i k') → Ev (fun f => impl_CheckAwards.l1 f cl m aw aw (aw.length : Int) ((i + 1 : Nat) : Int)) r) →
    Ev (fun f => impl_CheckAwards.l2 f cl m aw (i : Int) (rd aw (i : Int)) aw (aw.length : Int) (i : Int) aw (aw.length : Int) (k : Int)) r := by
  induction d with
  | zero =>
    intro k hk hd h1 h2
    refine Ev.step (fun f => ?_) (h2 fun k' a b => by omega)
    simp only [impl_CheckAwards.l2]
    rw [if_neg (by omega), wnat (by omega)]
  | succ d ih =>
    intro k hk hd h1 h2
    by_cases hb : Bad cl aw i k
    · obtain rfl := h1 ⟨k, by omega, by omega, hb⟩
      refine Ev.step (f := fun _ => some (false, 0)) (fun f => ?_) (Ev.now _)
      simp only [impl_CheckAwards.l2]
      rw [if_pos (by omega), if_pos (by omega), if_pos (by omega), if_pos (by omega), if_pos (by omega), if_pos hb.1, if_pos hb.2]
    · refine Ev.step (fun f => ?_) (ih (k + 1) (by omega) (by omega) (fun ⟨k', a, b, c⟩ => h1 ⟨k', by omega, b, c⟩) (fun h => h2 fun k' a b => by
        by_cases e : k' = k
        · rw [e]; exact hb
        · exact h k' (by omega) b))
      simp only [impl_CheckAwards.l2]
      rw [if_pos (by omega), if_pos (by omega), if_pos (by omega), if_pos (by omega), if_pos (by omega), wnat (by omega)]
      by_cases h3 : rd aw (i : Int) < rd cl (i : Int)
      · rw [if_pos h3, if_neg (fun h4 => hb ⟨h3, h4⟩)]
      · rw [if_neg h3]
theorem i_l1 (cl aw : List Int) (m : Int) (he : aw.length = cl.length) (hl : cl.length ≤ 1048576) (r : Bool × Int) (d : Nat) : ∀ i : Nat, i ≤ aw.length → aw.length - i = d →
    ((∃ i' k' : Nat, i ≤ i' ∧ i' < aw.length ∧ k' < aw.length ∧ Bad cl aw i' k') → r = (false, 0)) → ((∀ i' k' : Nat, i ≤ i' → i' < aw.length → k' < aw.length → ¬ Bad cl aw i' k') → r = fin cl aw m) →
    Ev (fun f => impl_CheckAwards.l1 f cl m aw aw (aw.length : Int) (i : Int)) r := by
  induction d with
  | zero =>
    intro i hi hd h1 h2
    obtain rfl := h2 (fun i' k' a b => by omega)
    refine Ev.step (f := fun f => (impl_total.f f aw).bind fun t132 => ((impl_total.f f cl).bind fun t133 => (some ((t132 == (mn m t133)), 0)))) (fun f => ?_) ?_
    · simp only [impl_CheckAwards.l1]
      rw [if_neg (by omega)]
    · exact Ev.bind (total aw (by omega)) (Ev.bind (total cl hl) (ev_eq fun _ => rfl))
  | succ d ih =>
    intro i hi hd h1 h2
    refine Ev.step (f := fun f => impl_CheckAwards.l2 f cl m aw (i : Int) (rd aw (i : Int)) aw (aw.length : Int) (i : Int) aw (aw.length : Int) ((0 : Nat) : Int)) (fun f => ?_) (i_l2 cl aw m he hl i (by omega) r aw.length 0 (by omega) (by omega) (fun ⟨k', a, b, c⟩ => h1 ⟨i, k', by omega, by omega, b, c⟩) (fun h => ih (i + 1) (by omega) (by omega) (fun ⟨i', k', a, b, c, e⟩ => h1 ⟨i', k', by omega, b, c, e⟩) (fun h' => h2 fun i' k' a b c => by
      by_cases e : i' = i
      · rw [e]; exact h k' (by omega) c
      · exact h' i' k' (by omega) b c)))
    simp only [impl_CheckAwards.l1]
    rw [if_pos (by omega), if_pos (by omega), if_pos (by omega)]
    rfl

end CA
def codeOf (l : List Int) (m : Int) : Int := if okAll l m = true then (if wsum l l.length = 0 then (if m = 0 then 0 else 4) else 0) else 2
theorem code_i_j0 (l : List Int) (m : Int) (hl : l.length ≤ 1048576) (b : Bool) : Ev (fun k => impl_sharesCode.j0 k l m b) (if b = true then 2 else (if wsum l l.length = 0 then (if m = 0 then 0 else 4) else 0)) := by
  cases b with
  | true =>
    refine Ev.step (f := fun _ => some _) (fun k => ?_) (Ev.now _)
    simp only [impl_sharesCode.j0, if_true]
  | false =>
    refine Ev.step (f := fun k => (impl_total.f k l).bind fun t131 => (if t131 = 0 then (if m = 0 then (some 0) else (some 4)) else (some 0))) (fun k => ?_) (Ev.bind (total l hl) (ev_eq fun k => ?_))
    · simp only [impl_sharesCode.j0, Bool.false_eq_true, if_false]
    · simp only [Bool.false_eq_true, if_false]
      by_cases h : wsum l l.length = 0
      · by_cases h2 : m = 0
        · rw [if_pos h, if_pos h2, if_pos h, if_pos h2]
        · rw [if_pos h, if_neg h2, if_pos h, if_neg h2]
      · rw [if_neg h, if_neg h]
theorem code_i (l : List Int) (m : Int) (hl : l.length ≤ 1048576) : Ev (fun k => impl_sharesCode.f k l m) (codeOf l m) := by
  unfold codeOf
  have hj := code_i_j0 l m hl (!okAll l m)
  refine Ev.congr (f := fun k => impl_sharesCode.j0 k l m (!okAll l m)) (fun k => ?_) ?_
  · unfold impl_sharesCode.f okAll
    rw [areMoneys1]
    simp only [Option.bind_some]
    cases X1.money m with
    | false => simp
    | true =>
      by_cases h : l.length ≤ 100
      · rw [if_pos rfl, if_neg (by omega), areMoneys l (by omega)]
        simp [h]
      · rw [if_pos rfl, if_pos (by omega)]
        simp [h]
  · revert hj
    cases okAll l m <;> simp


end Go.Proofs.Ytgdkimdikalmkaa.PFnShares
