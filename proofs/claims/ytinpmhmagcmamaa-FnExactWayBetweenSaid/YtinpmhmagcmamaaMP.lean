/- A map of whole numbers that the call makes: what it holds, as a plain function. No condition but those that each theorem names. -/
import Derived.Test.YtinpmhmagcmamaaWY
import Derived.Maps.OwnOps
import Derived.Maps.Views
namespace Go.Proofs.Ytinpmhmagcmamaa
open Go.RowKit Go.Maps Go.Proofs.YtinpmhmagcmamaaW.PrintWords Go.Proofs.YtinpmhmagcmamaaW.PrintLast Go.Proofs.YtinpmhmagcmamaaW.PrintMore
set_option linter.unusedSimpArgs false
set_option linter.unusedVariables false

def mKey (c : Nat) : Lit := .int .i64 (c : Int)
theorem mKey_wf {c : Nat} (h : c < 100) : (Lit.int .i64 (c : Int)).wf = true := by simp [Lit.wf, IntKind.min, IntKind.max, IntKind.signed, IntKind.bits]; omega
theorem mLaw : Keyed Try.prog 2 := int_keyed Try.underlying2
theorem mHas {c : Nat} (h : c < 100) : keyOf Try.prog 2 (.int .i64 (c : Int)) = some (mKey c) := keyOf_int_mk Try.underlying2 (mKey_wf h)
theorem mZero (w : World) : (zeroValue 3).run Try.prog w = .ok (.int .i64 0) w := by kernel_rfl
theorem mKey_ne {c d : Nat} (h : c ≠ d) : mKey c ≠ mKey d := fun e => by
  unfold mKey at e
  injection e with _ e
  omega
/-- Block b is a map of at most n entries: a number that D tells of is there, one less than D says. -/
def MapI (w : World) (b n : Nat) (D : Nat → Int) : Prop :=
  ∃ E : DataW Unit, w.ownsMap Try.prog 2 (plainElem Try.prog 3) b n E ∧ ∀ c, c < 100 → (¬ 0 < D c → ∀ z, E.atKey (mKey c) z = z) ∧ (0 < D c → ∀ z, E.atKey (mKey c) z = .lit (.int .i64 (D c - 1)))
theorem MapI.lt {w : World} {b n : Nat} {D : Nat → Int} (h : MapI w b n D) : b < w.heap.size := by
  obtain ⟨E, h, _⟩ := h
  exact h.lt
theorem MapI.grown {w w' : World} {b n : Nat} {D : Nat → Int} {row : Option Nat} (h : MapI w b n D) (hg : w.grownBy w' row) (hne : some b ≠ row) : MapI w' b n D := by
  obtain ⟨E, h, hD⟩ := h
  exact ⟨E, h.kept hg hne, hD⟩
theorem MapI.below {w w' : World} {b n : Nat} {D : Nat → Int} (h : MapI w b n D) (hb : Below w.heap.size w w') : MapI w' b n D := by
  have hl := h.lt
  obtain ⟨E, ⟨es, clock, h1, h2, h3, h4⟩, hD⟩ := h
  exact ⟨E, ⟨es, clock, (hb.block b hl).trans h1, h2, h3, h4⟩, hD⟩
theorem MapI.made (w : World) : MapI (w.alloc (.map #[] 0)) w.heap.size 0 (fun _ => 0) :=
  ⟨.map [], World.ownsMap_made w _ _ _, fun c _ => ⟨fun _ z => rfl, fun h => absurd h (show ¬ (0 : Int) < 0 by omega)⟩⟩
theorem MapI.look {w : World} {b n : Nat} {D : Nat → Int} (h : MapI w b n D) {c : Nat} (hc : c < 100) (ok : Bool) :
    (Instr.lookup 50 (.map (some b)) (.int .i64 (c : Int)) ok).run Try.prog w = .ok (if ok then .tuple #[.int .i64 (if 0 < D c then D c - 1 else 0), .bool (decide (0 < D c))] else .int .i64 (if 0 < D c then D c - 1 else 0)) w := by
  obtain ⟨E, ⟨es, clock, h1, h2, h3, h4⟩, hD⟩ := h
  obtain ⟨d1, d2⟩ := hD c hc
  have tw : (DataW.lit (.int .i64 0) : DataW Unit) ≠ .lit (.int .i64 1) := by simp
  rcases Maps.fit_look ok mLaw Try.underlying50 (mZero w) h1 h2 (mHas hc) with ⟨hrun, _, hat⟩ | ⟨e0, y, _, _, hrun, hR, hat, _⟩
  · have hn : ¬ 0 < D c := fun hp => by
      have e1 := d2 hp
      rw [h4] at e1
      have a1 := (hat (.lit (.int .i64 0))).symm.trans (e1 _)
      have a2 := (hat (.lit (.int .i64 1))).symm.trans (e1 _)
      exact tw (a1.trans a2.symm)
    rw [hrun, if_neg hn, decide_eq_false hn]
  · have hp : 0 < D c := by
      refine Classical.byContradiction fun hn => ?_
      have e1 := d1 hn
      rw [h4] at e1
      have a1 := (hat (.lit (.int .i64 0))).symm.trans (e1 _)
      have a2 := (hat (.lit (.int .i64 1))).symm.trans (e1 _)
      exact tw (a1.symm.trans a2)
    have e1 := d2 hp (.lit (.int .i64 0))
    rw [h4, hat] at e1
    obtain ⟨v, hv, hy, _⟩ := plainElem_int_inv Try.underlying3 hR
    rw [hy] at e1
    have e2 : v = D c - 1 := by
      injection e1 with e1
      injection e1 with _ e1
    rw [hrun, hv, e2, if_pos hp, decide_eq_true hp]
theorem MapI.put {w : World} {b n : Nat} {D : Nat → Int} (h : MapI w b n D) (hn : n ≤ 1000) {c : Nat} (hc : c < 100) {v : Int} (h0 : 0 ≤ v) (h1 : v ≤ 1000) :
    ∃ w', (Instr.mapUpdate 50 (.map (some b)) (.int .i64 (c : Int)) (.int .i64 v)).run Try.prog w = .ok () w' ∧ MapI w' b (n + 1) (WY.upd D c (v + 1)) ∧ w.grownBy w' (some b) := by
  obtain ⟨E, hO, hD⟩ := h
  have hwf : (Lit.int .i64 v).wf = true := by simp [Lit.wf, IntKind.min, IntKind.max, IntKind.signed, IntKind.bits]; omega
  obtain ⟨w', hrun, hO', hg⟩ := hO.update mLaw Try.underlying50 (by unfold maxLen; omega) (mHas hc) (plainElem_int (H := Unit) Try.underlying3 hwf)
  refine ⟨w', hrun, ⟨_, hO', fun d hd => ?_⟩, hg⟩
  have hM : IsMap E := by
    obtain ⟨es, clock, _, _, _, h4⟩ := hO
    exact ⟨_, h4⟩
  by_cases e : d = c
  · subst e
    have u : WY.upd D d (v + 1) d = v + 1 := by simp [WY.upd]
    rw [u]
    refine ⟨fun hh => absurd (show 0 < v + 1 by omega) hh, fun _ z => ?_⟩
    rw [atKey_put_same hM (show WideAt.IsKeyLit (mKey d) from trivial), show v + 1 - 1 = v by omega]
  · have u : WY.upd D c (v + 1) d = D d := by simp [WY.upd, e]
    rw [u]
    obtain ⟨d1, d2⟩ := hD d hd
    exact ⟨fun hh z => by rw [atKey_put_other (mKey_ne e)]; exact d1 hh z, fun hh z => by rw [atKey_put_other (mKey_ne e)]; exact d2 hh z⟩
end Go.Proofs.Ytinpmhmagcmamaa
