/- Lists of bytes cut at a byte and joined again; cut at the first two newlines. No program. No condition but those that each theorem names. -/
import Derived.Test.YtfeniekapmbjjaaDoorTX
import Derived.Lib.IndexMore
namespace Go.Proofs.YtfeniekapmbjjaaDoor
open Go
set_option linter.unusedSimpArgs false
set_option linter.unusedVariables false

/-- Pieces joined by a byte. -/
def jn (c : UInt8) : List (List UInt8) → List UInt8
  | [] => []
  | [p] => p
  | p :: q :: r => p ++ c :: jn c (q :: r)
theorem jn_cons (c : UInt8) (p : List UInt8) {x : List (List UInt8)} (h : x ≠ []) : jn c (p :: x) = p ++ c :: jn c x := by
  cases x with
  | nil => exact absurd rfl h
  | cons q r => rfl
theorem jn_att (c b : UInt8) : ∀ x : List (List UInt8), x ≠ [] → jn c (att [b] x) = b :: jn c x
  | [], h => absurd rfl h
  | [p], _ => rfl
  | p :: q :: r, _ => rfl
theorem jn_sp (c : UInt8) : ∀ l, jn c (sp c l) = l
  | [] => rfl
  | b :: l => by
    simp only [sp]
    split
    · rename_i h
      rw [jn_cons c [] (sp_ne c l), jn_sp c l, h]
      rfl
    · rw [jn_att c b _ (sp_ne c l), jn_sp c l]
theorem sp_mem (c : UInt8) : ∀ l, ∀ p ∈ sp c l, c ∉ p
  | [], p, hp => by simp [sp] at hp; subst hp; simp
  | b :: l, p, hp => by
    simp only [sp] at hp
    split at hp
    · rcases List.mem_cons.1 hp with rfl | hp
      · simp
      · exact sp_mem c l p hp
    · rename_i hb
      cases hx : sp c l with
      | nil => exact absurd hx (sp_ne c l)
      | cons q r =>
        have ih := sp_mem c l
        rw [hx] at hp ih
        simp only [att, List.mem_cons] at hp
        rcases hp with rfl | hp
        · simp only [List.cons_append, List.nil_append, List.mem_cons, not_or]
          exact ⟨fun e => hb e.symm, ih q (by simp)⟩
        · exact ih p (by simp [hp])
theorem sp_jn (c : UInt8) : ∀ x : List (List UInt8), x ≠ [] → (∀ p ∈ x, c ∉ p) → sp c (jn c x) = x
  | [], h, _ => absurd rfl h
  | [p], _, h => sp_none c p (h p (by simp))
  | p :: q :: r, _, h => by
    show sp c (p ++ c :: jn c (q :: r)) = _
    rw [sp_hit c p _ (h p (by simp)), sp_jn c (q :: r) (by simp) (fun s hs => h s (by simp [List.mem_cons] at hs ⊢; exact .inr hs))]
theorem join_jn (c : UInt8) : ∀ x : List (List UInt8), Lib.join x [c] = jn c x
  | [] => rfl
  | [p] => Lib.join_one p [c]
  | p :: q :: r => by
    rw [Lib.join_cons]
    show _ = p ++ c :: jn c (q :: r)
    rw [← join_jn c (q :: r), Lib.join_cons]
    simp [Lib.joinTail]
/-- Lines, each with its end. -/
def endl : List (List UInt8) → List UInt8
  | [] => []
  | p :: r => p ++ 10 :: endl r
theorem endl_snoc (p : List UInt8) : ∀ x : List (List UInt8), endl (x ++ [p]) = endl x ++ (p ++ [10])
  | [] => rfl
  | q :: r => by
    show q ++ 10 :: endl (r ++ [p]) = (q ++ 10 :: endl r) ++ (p ++ [10])
    rw [endl_snoc p r]
    simp
theorem jn_endl (y : List (List UInt8)) (hy : y ≠ []) : ∀ x : List (List UInt8), jn 10 (x ++ y) = endl x ++ jn 10 y
  | [] => rfl
  | q :: r => by
    show jn 10 (q :: (r ++ y)) = (q ++ 10 :: endl r) ++ jn 10 y
    rw [jn_cons 10 q (by simp [hy]), jn_endl y hy r]
    simp
theorem sp_endl (x : List (List UInt8)) (h : ∀ p ∈ x, (10 : UInt8) ∉ p) : sp 10 (endl x) = x ++ [[]] := by
  have e : jn 10 (x ++ [[]]) = endl x := by rw [jn_endl [[]] (by simp) x]; simp [jn]
  rw [← e]
  exact sp_jn 10 _ (by simp) (fun p hp => by
    rcases List.mem_append.1 hp with hp | hp
    · exact h p hp
    · simp at hp; subst hp; simp)

theorem idx_cons (b : UInt8) (l s : List UInt8) : Lib.index (b :: l) s = if s.isPrefixOf (b :: l) then 0 else if Lib.index l s == -1 then -1 else Lib.index l s + 1 := rfl
/-- The two newlines: none in a line alone. -/
theorem index_two (m : List UInt8) : ∀ p : List UInt8, (10 : UInt8) ∉ p →
    Lib.index (p ++ 10 :: m) [10, 10] = if ([10] : List UInt8).isPrefixOf m then (p.length : Int) else if Lib.index m [10, 10] = -1 then -1 else (p.length : Int) + 1 + Lib.index m [10, 10]
  | [], _ => by
    show Lib.index (10 :: m) [10, 10] = _
    rw [idx_cons]
    have e : (([10, 10] : List UInt8).isPrefixOf (10 :: m)) = ([10] : List UInt8).isPrefixOf m := by simp [List.isPrefixOf]
    rw [e]
    cases h : ([10] : List UInt8).isPrefixOf m with
    | true => simp
    | false =>
      by_cases h1 : Lib.index m [10, 10] = -1
      · simp [h1]
      · have h2 : (Lib.index m [10, 10] == -1) = false := by simpa using h1
        simp only [h2, if_neg h1, List.length_nil, Bool.false_eq_true, if_false]
        generalize Lib.index m [10, 10] = z
        show z + 1 = ((0 : Nat) : Int) + 1 + z
        omega
  | b :: p, hp => by
    simp only [List.mem_cons, not_or] at hp
    have ih := index_two m p hp.2
    show Lib.index (b :: (p ++ 10 :: m)) [10, 10] = _
    rw [idx_cons]
    have e : (([10, 10] : List UInt8).isPrefixOf (b :: (p ++ 10 :: m))) = false := by
      have : ((10 : UInt8) == b) = false := by simpa using hp.1
      simp [List.isPrefixOf, this]
    rw [e, ih]
    have hg := Lib.index_ge m [10, 10]
    cases h : ([10] : List UInt8).isPrefixOf m with
    | true =>
      have : (((p.length : Nat) : Int) == -1) = false := by rw [beq_eq_false_iff_ne]; omega
      simp [this]
    | false =>
      by_cases h1 : Lib.index m [10, 10] = -1
      · simp [h1]
      · have : (((p.length : Nat) : Int) + 1 + Lib.index m [10, 10] == -1) = false := by rw [beq_eq_false_iff_ne]; omega
        simp only [Bool.false_eq_true, if_false, if_neg h1, this, List.length_cons]
        generalize Lib.index m [10, 10] = z
        omega
theorem index_nodbl : ∀ p : List UInt8, (10 : UInt8) ∉ p → Lib.index p [10, 10] = -1
  | [], _ => rfl
  | b :: p, hp => by
    simp only [List.mem_cons, not_or] at hp
    rw [idx_cons]
    have e : (([10, 10] : List UInt8).isPrefixOf (b :: p)) = false := by
      have : ((10 : UInt8) == b) = false := by simpa using hp.1
      simp [List.isPrefixOf, this]
    rw [e, index_nodbl p hp.2]
    rfl
/-- Lines cut at the first empty one that is neither the first nor the last. -/
def dbl : List (List UInt8) → Option (List (List UInt8) × List (List UInt8))
  | [] => none
  | [_] => none
  | [_, _] => none
  | p :: q :: s :: r => if q = [] then some ([p], s :: r) else (dbl (q :: s :: r)).map fun z => (p :: z.1, z.2)
theorem dbl_ne : ∀ x z, dbl x = some z → z.1 ≠ [] ∧ z.2 ≠ []
  | [], z, h => by simp [dbl] at h
  | [_], z, h => by simp [dbl] at h
  | [_, _], z, h => by simp [dbl] at h
  | p :: q :: s :: r, z, h => by
    simp only [dbl] at h
    split at h
    · cases h; simp
    · cases hd : dbl (q :: s :: r) with
      | none => rw [hd] at h; cases h
      | some u =>
        rw [hd] at h
        cases h
        exact ⟨by simp, (dbl_ne _ u hd).2⟩
theorem index_dbl : ∀ x : List (List UInt8), (∀ p ∈ x, (10 : UInt8) ∉ p) →
    Lib.index (jn 10 x) [10, 10] = match dbl x with | none => -1 | some z => ((jn 10 z.1).length : Int)
  | [], _ => rfl
  | [p], h => index_nodbl p (h p (by simp))
  | [p, q], h => by
    show Lib.index (p ++ 10 :: q) [10, 10] = -1
    rw [index_two q p (h p (by simp)), index_nodbl q (h q (by simp))]
    have hq := h q (by simp)
    have e : ([10] : List UInt8).isPrefixOf q = false := by
      cases q with
      | nil => rfl
      | cons b q =>
        simp only [List.mem_cons, not_or] at hq
        have : ((10 : UInt8) == b) = false := by simpa using hq.1
        simp [List.isPrefixOf, this]
    rw [e]
    rfl
  | p :: q :: s :: r, h => by
    have hq := h q (by simp)
    have ih := index_dbl (q :: s :: r) (fun t ht => h t (by simp only [List.mem_cons] at ht ⊢; exact .inr ht))
    show Lib.index (p ++ 10 :: jn 10 (q :: s :: r)) [10, 10] = _
    rw [index_two _ p (h p (by simp)), ih]
    simp only [dbl]
    by_cases e : q = []
    · subst e
      have : ([10] : List UInt8).isPrefixOf (jn 10 ([] :: s :: r)) = true := by show ([10] : List UInt8).isPrefixOf (10 :: jn 10 (s :: r)) = true; simp [List.isPrefixOf]
      rw [if_pos this, if_pos rfl]
      rfl
    · have : ([10] : List UInt8).isPrefixOf (jn 10 (q :: s :: r)) = false := by
        show ([10] : List UInt8).isPrefixOf (q ++ 10 :: jn 10 (s :: r)) = false
        cases q with
        | nil => exact absurd rfl e
        | cons b q =>
          simp only [List.mem_cons, not_or] at hq
          have : ((10 : UInt8) == b) = false := by simpa using hq.1
          simp [List.isPrefixOf, this]
      rw [if_neg (by rw [this]; decide), if_neg e]
      cases hd : dbl (q :: s :: r) with
      | none => simp
      | some z =>
        have hz := (dbl_ne _ z hd).1
        have h1 : ¬ (((jn 10 z.1).length : Int) = -1) := by omega
        simp only [Option.map_some, if_neg h1]
        rw [jn_cons 10 p hz, List.length_append, List.length_cons]
        show (p.length : Int) + 1 + ((jn 10 z.1).length : Int) = ((p.length + ((jn 10 z.1).length + 1) : Nat) : Int)
        omega
theorem dbl_is : ∀ x z, dbl x = some z → x = z.1 ++ [] :: z.2
  | [], z, h => by simp [dbl] at h
  | [_], z, h => by simp [dbl] at h
  | [_, _], z, h => by simp [dbl] at h
  | p :: q :: s :: r, z, h => by
    simp only [dbl] at h
    split at h
    · rename_i e; cases h; subst e; rfl
    · cases hd : dbl (q :: s :: r) with
      | none => rw [hd] at h; cases h
      | some u =>
        rw [hd] at h
        cases h
        show p :: q :: s :: r = p :: (u.1 ++ [] :: u.2)
        rw [← dbl_is _ u hd]
theorem cut_dbl (x : List (List UInt8)) (h : ∀ p ∈ x, (10 : UInt8) ∉ p) :
    (Lib.cut (jn 10 x) [10, 10]).1 = (match dbl x with | none => jn 10 x | some z => jn 10 z.1) ∧ (Lib.cut (jn 10 x) [10, 10]).2.1 = (match dbl x with | none => [] | some z => jn 10 z.2) := by
  have hi := index_dbl x h
  cases hd : dbl x with
  | none =>
    rw [hd] at hi
    unfold Lib.cut
    rw [hi]
    simp
  | some z =>
    rw [hd] at hi
    obtain ⟨h1, h2⟩ := dbl_ne x z hd
    have e := dbl_is x z hd
    have ej : jn 10 x = jn 10 z.1 ++ 10 :: 10 :: jn 10 z.2 := by
      have e1 : z.1 ++ [] :: z.2 = z.1 ++ ([] :: z.2) := rfl
      rw [e, jn_endl ([] :: z.2) (by simp) z.1, jn_cons 10 [] h2]
      have e2 : ∀ a : List (List UInt8), a ≠ [] → endl a = jn 10 a ++ [10] := fun a ha => by
        have := jn_endl [[]] (by simp) a
        have h3 : jn 10 (a ++ [[]]) = jn 10 a ++ [10] := by
          clear this
          induction a with
          | nil => exact absurd rfl ha
          | cons q r ih =>
            cases r with
            | nil => simp [jn]
            | cons s r =>
              show jn 10 (q :: (s :: r ++ [[]])) = _
              rw [jn_cons 10 q (by simp), ih (by simp), jn_cons 10 q (by simp)]
              simp
        rw [h3] at this
        simpa [jn] using this.symm
      rw [e2 z.1 h1]
      simp
    have hi2 : Lib.index (jn 10 x) [10, 10] = ((jn 10 z.1).length : Int) := hi
    unfold Lib.cut
    rw [hi2, if_pos (by omega)]
    simp only [Int.toNat_natCast]
    rw [ej]
    refine ⟨by simp, ?_⟩
    simp [List.drop_append]
/-- Lines up to the first empty one. -/
def upL : List (List UInt8) → List (List UInt8)
  | [] => []
  | p :: r => if p = [] then [] else p :: upL r
theorem up_dbl : ∀ (x : List (List UInt8)) (p : List UInt8) (r : List (List UInt8)), x = p :: r → p ≠ [] →
    match dbl x with | none => (upL x = x ∨ x = upL x ++ [[]]) | some z => upL x = z.1
  | [], p, r, h, _ => by cases h
  | [q], p, r, h, hp => by
    cases h
    exact .inl (by simp [upL, hp])
  | [q, s], p, r, h, hp => by
    cases h
    by_cases e : s = []
    · subst e; exact .inr (by simp [upL, hp])
    · exact .inl (by simp [upL, hp, e])
  | p :: q :: s :: r', _, _, h, hp => by
    cases h
    simp only [dbl]
    by_cases e : q = []
    · subst e
      simp [upL, hp]
    · rw [if_neg e]
      have ih := up_dbl (q :: s :: r') q (s :: r') rfl e
      have eu : upL (p :: q :: s :: r') = p :: upL (q :: s :: r') := by rw [upL, if_neg hp]
      cases hd : dbl (q :: s :: r') with
      | none =>
        rw [hd] at ih
        simp only [Option.map_none]
        rw [eu]
        rcases ih with ih | ih
        · exact .inl (by rw [ih])
        · exact .inr (by rw [List.cons_append, ← ih])
      | some z =>
        rw [hd] at ih
        simp only [Option.map_some]
        rw [eu]
        have ih : upL (q :: s :: r') = z.1 := ih
        rw [ih]
end Go.Proofs.YtfeniekapmbjjaaDoor
