/- Words of this claim's own: a region that draws its order, some of whose operations make memory: what yields one value in every world to come may be taken first. No condition. -/
import Derived.Test.YtlhiaofanejcoaaB
namespace Go.Proofs.Ytlhiaofanejcoaa
open Go.RowKit
set_option linter.unusedSimpArgs false
set_option linter.unusedVariables false

/-- A world to come: nothing that was has turned. -/
abbrev WUp (w w' : World) : Prop := Below w.heap.size w w'
theorem WUp.refl (w : World) : WUp w w := Below.refl _ _
theorem WUp.trans {w w1 w2 : World} (h : WUp w w1) (k : WUp w1 w2) : WUp w w2 := Below.trans h (k.mono h.size)

section
variable {P : Program} {ops : Array Oper} {Q : Exit → Act → World → Prop} {md : Region.Mode} {n : Nat}

/-- In every world to come the operation yields v, and leaves a world to come. -/
def YieldsUp (P : Program) (ops : Array Oper) (o : Oper) (v : Value) (a : Act) (w : World) : Prop :=
  (Region.wanted o (yielded ops a.tmps) = true ∧ ∀ w', WUp w w' → o.quietAt P a (WUp w') w' v) ∨ (Region.wanted o (yielded ops a.tmps) = false ∧ v = undef)

theorem YieldsUp.up {o : Oper} {v : Value} {a : Act} {w w1 : World} (h : YieldsUp P ops o v a w) (hw : WUp w w1) : YieldsUp P ops o v a w1 := by
  rcases h with ⟨h1, h2⟩ | h
  · exact .inl ⟨h1, fun w' h' => h2 w' (hw.trans h')⟩
  · exact .inr h
theorem YieldsUp.same {o : Oper} {v : Value} {a a' : Act} {w : World} (hy : YieldsUp P ops o v a w) (he : execOp a'.eval o = execOp a.eval o)
    (hw : Region.wanted o (yielded ops a'.tmps) = Region.wanted o (yielded ops a.tmps)) : YieldsUp P ops o v a' w := by
  unfold YieldsUp Oper.quietAt at *
  rw [he, hw]
  exact hy
theorem YieldsUp.op {i : Nat} {oi : Oper} {v : Value} {a : Act} {w : World} {K : Act → World → Prop} (hi : ops[i]? = some oi) (hy : YieldsUp P ops oi v a w) (hK : ∀ w', WUp w w' → K (a.put oi.dst v) w') : wpOp P ops Q i K a w := by
  unfold wpOp
  simp only [hi]
  rcases hy with ⟨hw, hv⟩ | ⟨hw, rfl⟩
  · rw [if_pos hw]
    refine .inl ?_
    have h3 := hv w (WUp.refl w)
    unfold Oper.quietAt at h3
    unfold Oper.wp
    generalize (execOp a.eval oi).run P w = r at *
    cases r with
    | ok nx w' =>
      cases nx <;> simp only [Oper.quietUpon] at h3 <;> simp only [Oper.upon]
      case value u =>
        obtain ⟨e1, e2⟩ := h3
        rw [e1, e2]
        exact hK _ (WUp.refl w)
      case skip =>
        obtain ⟨e1, e2⟩ := h3
        rw [e1, ← e2]
        exact hK _ (WUp.refl w)
      case enter f args =>
        obtain ⟨e1, hc⟩ := h3
        rw [e1]
        exact hc.mono fun e w'' ⟨he, hw''⟩ => by subst he; exact hK _ hw''
    | halt x w' => simp only [Oper.quietUpon] at h3
  · rw [hw]
    exact hK w (WUp.refl w)

/-- Any order from here on, in every world to come; an operation whose number is below n leaves a world to come. -/
def wpK (P : Program) (md : Region.Mode) (ops : Array Oper) (Q : Exit → Act → World → Prop) (n : Nat) : Nat → Array Bool → Act → World → Prop
  | 0, listed, a, w => ∀ w', WUp w w' → Region.ready md ops listed = [] ∧ Q .normal a w'
  | f + 1, listed, a, w => ∀ w', WUp w w' → (Region.ready md ops listed = [] → Q .normal a w') ∧
      ∀ i ∈ Region.ready md ops listed, wpOp P ops Q i (fun a'' w'' => (i < n → WUp w' w'') ∧ wpK P md ops Q n f (listed.setIfInBounds i true) a'' w'') a w'

theorem wpK.up : ∀ {f : Nat} {listed : Array Bool} {a : Act} {w w1 : World}, wpK P md ops Q n f listed a w → WUp w w1 → wpK P md ops Q n f listed a w1
  | 0, _, _, _, _, h, hw => fun w' h' => h w' (hw.trans h')
  | _ + 1, _, _, _, _, h, hw => fun w' h' => h w' (hw.trans h')

theorem wpK.any : ∀ (f : Nat) (listed : Array Bool) (a : Act) (w : World), wpK P md ops Q n f listed a w → wpAny P md ops Q f listed a w
  | 0, _, _, w, h => h w (WUp.refl w)
  | f + 1, _, _, w, h => ⟨(h w (WUp.refl w)).1, fun i hi => wpOp_mono (fun a' w' h' => wpK.any f _ a' w' h'.2) ((h w (WUp.refl w)).2 i hi)⟩

/-- An operation that is apart from one that has yielded already. -/
theorem wpOp_put' {j : Nat} {oi oj : Oper} {v : Value} (hj : ops[j]? = some oj) (hap : oi.apart ops oj = true) (hsj : ∀ cs b, oj.op ≠ .select cs b)
    (hQ : ∀ c a w, Q (.panic c) (a.put oi.dst v) w → Q (.panic c) a w) {K : Act → World → Prop} {a : Act} {w : World} (Y : Act → Prop) (hk : ∀ a u, Y a → Y (a.put oj.dst u)) (hkd : ∀ (a : Act) d, Y a → Y { a with defers := d :: a.defers })
    (hy : Y a) (h : wpOp P ops Q j K (a.put oi.dst v) w) : wpOp P ops Q j (fun a' w' => Y a' ∧ K (a'.put oi.dst v) w') a w := by
  obtain ⟨h1, h2, h3⟩ := Oper.apart_spec hap
  unfold wpOp at *
  simp only [hj] at *
  rw [wanted_put oj a oi.dst v h1] at h
  split
  · rename_i hw
    simp only [hw, if_true] at h
    rcases h with h | ⟨hasks, hlets⟩
    case inr => exact .inr ⟨by unfold Oper.asks at *; rw [execOp_put oj hsj a oi.dst v h1] at hasks; exact hasks, hlets⟩
    refine .inl ?_
    unfold Oper.wp at *
    rw [execOp_put oj hsj a oi.dst v h1] at h
    generalize (execOp a.eval oj).run P w = r at *
    cases r with
    | ok nx w' =>
      cases nx <;> simp only [Oper.upon] at h ⊢
      case value u => exact ⟨hk a u hy, by rw [← Act.put_comm a v u h2]; exact h⟩
      case skip => exact ⟨hk a _ hy, by rw [← Act.put_comm a v undef h2]; exact h⟩
      case defer d =>
        refine ⟨hk _ _ (hkd a d hy), ?_⟩
        rw [← Act.put_comm _ v undef h2, ← Act.put_defers]
        exact h
      case enter f args =>
        refine Calls.mono h fun e w'' he => ?_
        cases e with
        | returned u => exact ⟨hk a u hy, by rw [← Act.put_comm a v u h2]; exact he⟩
        | panicked c => exact hQ _ _ _ he
        | outgrown => exact he
      case row row args => exact Rows.mono h fun u w'' he => ⟨hk a u hy, by rw [← Act.put_comm a v u h2]; exact he⟩
    | halt x w' =>
      cases x <;> simp only [Oper.upon] at h ⊢
      case panic u => exact hQ _ _ _ h
  · rename_i hw
    simp only [hw] at h
    exact ⟨hk a _ hy, by rw [← Act.put_comm a v undef h2]; exact h⟩

theorem wpK_take' {i : Nat} {oi : Oper} {v : Value} (hi : ops[i]? = some oi) (hsel : ∀ (j : Nat) (o : Oper) cs b, ops[j]? = some o → o.op ≠ .select cs b)
    (hQ : ∀ c a w, Q (.panic c) (a.put oi.dst v) w → Q (.panic c) a w) (hn : ∀ j oj, ops[j]? = some oj → n ≤ j → j ≠ i → ∃ e ∈ oj.after, Region.binds md e = true ∧ e.on = i) :
    ∀ (f : Nat) (listed : Array Bool) (a : Act) (w : World),
      (∀ j oj, ops[j]? = some oj → j ≠ i → listed.getD j true = false → (∀ e ∈ oj.after, Region.binds md e = true → e.on ≠ i) → oi.apart ops oj = true) →
      i ∈ Region.ready md ops listed → YieldsUp P ops oi v a w → wpK P md ops Q n f (listed.setIfInBounds i true) (a.put oi.dst v) w → wpK P md ops Q n (f + 1) listed a w := by
  intro f
  induction f with
  | zero =>
    intro listed a w _ hr hy H w' hw'
    refine ⟨fun h => (by rw [h] at hr; cases hr), fun j hj => ?_⟩
    by_cases hji : j = i
    · subst hji
      exact (hy.up hw').op hi fun w2 h2 => ⟨fun _ => h2, H.up (hw'.trans h2)⟩
    · have := ready_mono hj hji
      rw [(H w' hw').1] at this
      cases this
  | succ f ih =>
    intro listed a w hfree hr hy H w' hw'
    refine ⟨fun h => (by rw [h] at hr; cases hr), fun j hj => ?_⟩
    by_cases hji : j = i
    · subst hji
      exact (hy.up hw').op hi fun w2 h2 => ⟨fun _ => h2, H.up (hw'.trans h2)⟩
    · have h1 := (H w' hw').2 j (ready_mono hj hji)
      obtain ⟨hjun, oj, hoj, hall⟩ := mem_ready.1 hj
      have hiun : listed.getD i true = false := (mem_ready.1 hr).1
      have hnot : ∀ e ∈ oj.after, Region.binds md e = true → e.on ≠ i := fun e he hb heq => by
        have h1 := hall e he hb
        rw [heq] at h1
        rcases Nat.lt_or_ge i listed.size with h' | h'
        · simp [h'] at hiun h1; rw [hiun] at h1; cases h1
        · simp [Array.getElem?_eq_none h'] at hiun
      have hjn : j < n := by
        rcases Nat.lt_or_ge j n with h | h
        · exact h
        · obtain ⟨e, he, hb, heq⟩ := hn j oj hoj h hji
          exact absurd heq (hnot e he hb)
      have hap := hfree j oj hoj hji hjun hnot
      obtain ⟨g1, g2, g3⟩ := Oper.apart_spec hap
      have h2 := wpOp_put' hoj hap (fun cs b => hsel j oj cs b hoj) hQ (fun a' => YieldsUp P ops oi v a' w') (fun a' u hy' => hy'.same (execOp_put oi (fun cs b => hsel i oi cs b hi) a' oj.dst u g3) (wanted_put oi a' oj.dst u g3)) (fun a' d hy' => hy'.same rfl rfl) (hy.up hw') h1
      have hfree' : ∀ k ok, ops[k]? = some ok → k ≠ i → (listed.setIfInBounds j true).getD k true = false →
          (∀ e ∈ ok.after, Region.binds md e = true → e.on ≠ i) → oi.apart ops ok = true := fun k ok hk hki hun hno => by
        refine hfree k ok hk hki ?_ hno
        by_cases hjk : j = k
        · subst hjk; exact hjun
        · rw [getD_set_ne true hjk] at hun; exact hun
      refine wpOp_mono (fun a' w2 h3 => ⟨h3.2.1, ih (listed.setIfInBounds j true) a' w2 hfree' (ready_mono hr (Ne.symm hji)) (h3.1.up (h3.2.1 hjn)) ?_⟩) h2
      rw [Array.setIfInBounds_comm _ _ hji]
      exact h3.2.2

/-- From n on each operation waits for number i. -/
def waitB (md : Region.Mode) (ops : Array Oper) (n i : Nat) : Bool :=
  (List.range ops.size).all fun j => decide (j < n) || j == i || match ops[j]? with
    | some oj => oj.after.any fun e => Region.binds md e && e.on == i
    | none => true
/-- Number i may be taken first: one question to the operations. -/
def takeB (md : Region.Mode) (ops : Array Oper) (n i : Nat) (l l' : Array Bool) : Bool :=
  Region.noSelect ops && (waitB md ops n i && (Region.free md ops l i && ((Region.ready md ops l).contains i && (l.setIfInBounds i true == l'))))
/-- .. whatever the world is. -/
def anyB (md : Region.Mode) (ops : Array Oper) (i : Nat) (l l' : Array Bool) : Bool :=
  Region.noSelect ops && (Region.free md ops l i && ((Region.ready md ops l).contains i && (l.setIfInBounds i true == l')))

theorem wpK_any' {i : Nat} {oi : Oper} {v : Value} (hi : ops[i]? = some oi) (hsel : ∀ (j : Nat) (o : Oper) cs b, ops[j]? = some o → o.op ≠ .select cs b)
    (hQ : ∀ c a w, Q (.panic c) (a.put oi.dst v) w → Q (.panic c) a w) :
    ∀ (f : Nat) (listed : Array Bool) (a : Act) (w : World),
      (∀ j oj, ops[j]? = some oj → j ≠ i → listed.getD j true = false → (∀ e ∈ oj.after, Region.binds md e = true → e.on ≠ i) → oi.apart ops oj = true) →
      i ∈ Region.ready md ops listed → (∀ w, YieldsUp P ops oi v a w) → wpK P md ops Q n f (listed.setIfInBounds i true) (a.put oi.dst v) w → wpK P md ops Q n (f + 1) listed a w := by
  intro f
  induction f with
  | zero =>
    intro listed a w _ hr hy H w' hw'
    refine ⟨fun h => (by rw [h] at hr; cases hr), fun j hj => ?_⟩
    by_cases hji : j = i
    · subst hji
      exact (hy w').op hi fun w2 h2 => ⟨fun _ => h2, H.up (hw'.trans h2)⟩
    · have := ready_mono hj hji
      rw [(H w' hw').1] at this
      cases this
  | succ f ih =>
    intro listed a w hfree hr hy H w' hw'
    refine ⟨fun h => (by rw [h] at hr; cases hr), fun j hj => ?_⟩
    by_cases hji : j = i
    · subst hji
      exact (hy w').op hi fun w2 h2 => ⟨fun _ => h2, H.up (hw'.trans h2)⟩
    · have h1 := (H w' hw').2 j (ready_mono hj hji)
      obtain ⟨hjun, oj, hoj, hall⟩ := mem_ready.1 hj
      have hiun : listed.getD i true = false := (mem_ready.1 hr).1
      have hnot : ∀ e ∈ oj.after, Region.binds md e = true → e.on ≠ i := fun e he hb heq => by
        have h1 := hall e he hb
        rw [heq] at h1
        rcases Nat.lt_or_ge i listed.size with h' | h'
        · simp [h'] at hiun h1; rw [hiun] at h1; cases h1
        · simp [Array.getElem?_eq_none h'] at hiun
      have hap := hfree j oj hoj hji hjun hnot
      obtain ⟨g1, g2, g3⟩ := Oper.apart_spec hap
      have h2 := wpOp_put' hoj hap (fun cs b => hsel j oj cs b hoj) hQ (fun a' => ∀ w, YieldsUp P ops oi v a' w) (fun a' u hy' w => (hy' w).same (execOp_put oi (fun cs b => hsel i oi cs b hi) a' oj.dst u g3) (wanted_put oi a' oj.dst u g3)) (fun a' d hy' w => (hy' w).same rfl rfl) hy h1
      have hfree' : ∀ k ok, ops[k]? = some ok → k ≠ i → (listed.setIfInBounds j true).getD k true = false →
          (∀ e ∈ ok.after, Region.binds md e = true → e.on ≠ i) → oi.apart ops ok = true := fun k ok hk hki hun hno => by
        refine hfree k ok hk hki ?_ hno
        by_cases hjk : j = k
        · subst hjk; exact hjun
        · rw [getD_set_ne true hjk] at hun; exact hun
      refine wpOp_mono (fun a' w2 h3 => ⟨h3.2.1, ih (listed.setIfInBounds j true) a' w2 hfree' (ready_mono hr (Ne.symm hji)) h3.1 ?_⟩) h2
      rw [Array.setIfInBounds_comm _ _ hji]
      exact h3.2.2

/-- What stands behind a panic does not ask for the slots. -/
def PanicBlind (Q : Exit → Act → World → Prop) : Prop := ∀ c (a a' : Act) w, a'.defers = a.defers → Q (.panic c) a' w → Q (.panic c) a w
theorem PanicBlind.put (h : PanicBlind Q) (a : Act) (d : Option Tmp) (v : Value) : ∀ c (a0 : Act) w, Q (.panic c) (a0.put d v) w → Q (.panic c) a0 w := fun c a0 w hq => h c a0 _ w (by cases d <;> rfl) hq

/-- Take number i first. -/
theorem wpK_take {i : Nat} {oi : Oper} {v : Value} {f : Nat} {listed : Array Bool} {a : Act} {w : World} (l' : Array Bool) (hi : ops[i]? = some oi) (hc : takeB md ops n i listed l' = true)
    (hQ : PanicBlind Q) (hy : YieldsUp P ops oi v a w) (h : wpK P md ops Q n f l' (a.put oi.dst v) w) : wpK P md ops Q n (f + 1) listed a w := by
  unfold takeB at hc
  simp only [Bool.and_eq_true, beq_iff_eq] at hc
  obtain ⟨hs, ht, hf, hr, rfl⟩ := hc
  refine wpK_take' hi (Region.noSelect_spec hs) (hQ.put a oi.dst v) (fun j oj hj hnj hji => ?_) f listed a w (Region.free_spec hi hf) (by simpa using hr) hy h
  have h1 := List.all_eq_true.1 ht j (List.mem_range.2 (Array.getElem?_eq_some_iff.1 hj).1)
  rw [hj] at h1
  simp only [Bool.or_eq_true, decide_eq_true_eq, beq_iff_eq] at h1
  have h2 := h1.resolve_left (by omega)
  obtain ⟨e, he, h5⟩ := Array.any_eq_true'.1 h2
  simp only [Bool.and_eq_true, beq_iff_eq] at h5
  exact ⟨e, he, h5.1, h5.2⟩
/-- .. which yields v whatever the world is. -/
theorem wpK_any {i : Nat} {oi : Oper} {v : Value} {f : Nat} {listed : Array Bool} {a : Act} {w : World} (l' : Array Bool) (hi : ops[i]? = some oi) (hc : anyB md ops i listed l' = true)
    (hQ : PanicBlind Q) (hy : ∀ w, YieldsUp P ops oi v a w) (h : wpK P md ops Q n f l' (a.put oi.dst v) w) : wpK P md ops Q n (f + 1) listed a w := by
  unfold anyB at hc
  simp only [Bool.and_eq_true, beq_iff_eq] at hc
  obtain ⟨hs, hf, hr, rfl⟩ := hc
  exact wpK_any' hi (Region.noSelect_spec hs) (hQ.put a oi.dst v) f listed a w (Region.free_spec hi hf) (by simpa using hr) hy h

/-- Number i alone may come up. -/
theorem wpK_only {i : Nat} {f : Nat} {listed : Array Bool} {a : Act} {w : World} (l' : Array Bool) (hc : (Region.ready md ops listed == [i] && listed.setIfInBounds i true == l') = true)
    (h : ∀ w', WUp w w' → wpOp P ops Q i (fun a'' w'' => (i < n → WUp w' w'') ∧ wpK P md ops Q n f l' a'' w'') a w') : wpK P md ops Q n (f + 1) listed a w := by
  simp only [Bool.and_eq_true, beq_iff_eq] at hc
  obtain ⟨hr, rfl⟩ := hc
  intro w' hw'
  refine ⟨fun h0 => (by rw [hr] at h0; cases h0), fun j hj => ?_⟩
  rw [hr] at hj
  obtain rfl := List.mem_singleton.1 hj
  exact h w' hw'

theorem wpK_done {f : Nat} {listed : Array Bool} {a : Act} {w : World} (hc : (Region.ready md ops listed == []) = true) (h : ∀ w', WUp w w' → Q .normal a w') : wpK P md ops Q n f listed a w := by
  have hr : Region.ready md ops listed = [] := by simpa using hc
  cases f with
  | zero => exact fun w' hw' => ⟨hr, h w' hw'⟩
  | succ f => exact fun w' hw' => ⟨fun _ => h w' hw', fun i hi => by rw [hr] at hi; cases hi⟩

theorem wp_region_K {id : Nat} {a : Act} {w : World} (n : Nat) (m : Nat) (l : Array Bool) (hl : (ops.size == m && Array.replicate m false == l) = true) (hm : P.follows .mixedOrders = true) (hQ : PanicBlind Q) (h : PanicBlind Q → wpK P .any ops Q n m l a { w with drawn := w.drawn + 1 }) : (Code.region id ops true).wp P Q a w :=
  wp_region_any hm (by
    simp only [Bool.and_eq_true, beq_iff_eq] at hl
    obtain ⟨rfl, rfl⟩ := hl
    exact wpK.any _ _ _ _ (h hQ))
end
end Go.Proofs.Ytlhiaofanejcoaa
