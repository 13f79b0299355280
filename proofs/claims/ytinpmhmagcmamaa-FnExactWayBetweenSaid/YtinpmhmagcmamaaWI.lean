/- The way between two cells, by the program: words and closures. No condition but that the numbers are within their kinds. -/
import Derived.Test.YtinpmhmagcmamaaWS
import Derived.Test.YtinpmhmagcmamaaSO
import Derived.Test.YtinpmhmagcmamaaMP
namespace Go.Proofs.Ytinpmhmagcmamaa
open Go.RowKit Go.Proofs.YtinpmhmagcmamaaW.PrintWords Go.Proofs.YtinpmhmagcmamaaW.PrintLast Go.Proofs.YtinpmhmagcmamaaW.PrintMore
set_option linter.unusedSimpArgs false
set_option linter.unusedVariables false

/-- The state of a search in memory: a queue of one's own, a map in block m, a variable that leads to it in block p. -/
structure BfM (g m p : Nat) (w3 wr : World) (u : Value) (S : WY.BS) : Prop where
  q : Kd.R kI 2 wr g (fun k => k ≠ m ∧ k ≠ p) u S.1
  d : MapI wr m S.1.length S.2
  bx : Blk wr p [.map (some m)] 50
  b : Below g w3 wr
  gm : g ≤ m
  gp : g ≤ p
  ne : m ≠ p
section
variable {g m p n : Nat} {w3 wr w' w1 : World} {u v1 : Value} {S : WY.BS} {Q : List Int}
theorem BfM.below (h : BfM g m p w3 wr u S) (hb : Below wr.heap.size wr w') : BfM g m p w3 w' u S :=
  ⟨Kd.R_below h.q hb, h.d.below hb, h.bx.below hb h.bx.lt, below_then h.b (Nat.le_trans h.gm (Nat.le_of_lt h.d.lt)) hb, h.gm, h.gp, h.ne⟩
theorem BfM.put (h : BfM g m p w3 wr u S) (hn : n < 100) {v : Int} (h0 : 0 ≤ v) (h1 : v ≤ 1000) (hl : S.1.length ≤ 1000) :
    ∃ w', (Instr.mapUpdate 50 (.map (some m)) (.int .i64 (n : Int)) (.int .i64 v)).run Try.prog wr = .ok () w' ∧ Kd.R kI 2 w' g (fun k => k ≠ m ∧ k ≠ p) u S.1 ∧ MapI w' m (S.1.length + 1) (WY.upd S.2 n (v + 1)) ∧ Blk w' p [.map (some m)] 50 ∧ Below g w3 w' ∧ wr.grownBy w' (some m) := by
  obtain ⟨w', hrun, hM, hg⟩ := h.d.put hl hn h0 h1
  exact ⟨w', hrun, Kd.R_grown h.q hg (fun k hk e => hk.1 (by injection e)), hM, (hg.block p h.bx.lt (fun e => h.ne (by injection e with e; exact e.symm))).trans h.bx, pw_below_grown h.b (some m) (Nat.le_trans h.gm (Nat.le_of_lt h.d.lt)) hg (fun k hk => by injection hk with hk; rw [← hk]; exact h.gm), hg⟩
theorem BfM.field {b : Nat} {cs : List Value} {T : TypeId} (h : BfM g m p w3 wr u S) (hf : Blk w3 b cs T) (hg : g = w3.heap.size) : Blk wr b cs T := by
  have hb := h.b
  rw [hg] at hb
  exact hf.below hb hf.lt
theorem BfM.far (h : BfM g m p w3 wr u S) (hn : n < 100) (ok : Bool) : (Instr.lookup 50 (.map (some m)) (.int .i64 (n : Int)) ok).run Try.prog wr = .ok (if ok then .tuple #[.int .i64 (if 0 < S.2 n then S.2 n - 1 else 0), .bool (decide (0 < S.2 n))] else .int .i64 (if 0 < S.2 n then S.2 n - 1 else 0)) wr := h.d.look hn ok
theorem BfM.at {n c : Nat} {A : Option Addr} (h : BfM g m p w3 wr (.slice A n c) S) {i : Nat} (hi : i < S.1.length) : n = S.1.length ∧ ∃ ad, A = some ad ∧ wr.cell? (ad.add i) = some (.int .i64 (rd S.1 (i : Int))) := by
  obtain ⟨hn, _, hC⟩ := Kd.R_reads' h.q
  obtain ⟨ad, h1, h2⟩ := Kd.at_int hC (i : Int) (by omega) (by omega)
  exact ⟨hn, ad, h1, by simpa using h2⟩
theorem BfM.slice (h : BfM g m p w3 wr u S) : ∃ A c, u = .slice A S.1.length c := Kd.R_slice h.q
end
theorem BfM.app {g m p : Nat} {w3 wr w1 : World} {u v1 : Value} {Q0 Q : List Int} {D : Nat → Int} (hq : Kd.R kI 2 wr g (fun k => k ≠ m ∧ k ≠ p) u Q0) (hM : MapI wr m (Q0.length + 1) D) (hp : Blk wr p [.map (some m)] 50) (gm : g ≤ m) (gp : g ≤ p) (ne : m ≠ p)
    (h1 : Kd.R kI 2 w1 g (fun k => k ≠ m ∧ k ≠ p) v1 Q) (hQ : Q.length = Q0.length + 1) (hb : Below g w3 w1) (hg : wr.grownBy w1 u.ownBlock) : BfM g m p w3 w1 v1 (Q, D) :=
  ⟨h1, by show MapI w1 m Q.length D; rw [hQ]; exact hM.grown hg (Kd.R_away hq (fun _ hk => hk.1)), (hg.block p hp.lt (Kd.R_away hq (fun _ hk => hk.2))).trans hp, hb, gm, gp, ne⟩
/-- Beside it a list of one's own, in a block of its own. -/
structure BfN (g m p B : Nat) (w3 : World) (lv : Value) (L : List Int) (wr : World) (u : Value) (S : WY.BS) : Prop where
  s : BfM g m p w3 wr u S
  l : Kd.R kI 2 wr B (fun k => k ≠ m ∧ some k ≠ u.ownBlock) lv L
theorem BfM.lst {g m p : Nat} {w3 wr w' : World} {u v : Value} {S : WY.BS} {L : List Int} (h : BfM g m p w3 wr u S) (hm : Made wr w' L v) (hb : Below wr.heap.size wr w') : BfN g m p wr.heap.size w3 v L w' u S :=
  ⟨h.below hb, Kd.R_mono (Kd.R_bound (Kd.R_newR hm h.q)) (fun k hk => ⟨by have := hk.2.1; have := h.d.lt; omega, hk.1.2⟩)⟩
theorem BfN.at {g m p B : Nat} {w3 wr : World} {u : Value} {S : WY.BS} {L : List Int} {A : Option Addr} {n c : Nat} (h : BfN g m p B w3 (.slice A n c) L wr u S) {i : Nat} (hi : i < L.length) : n = L.length ∧ ∃ ad, A = some ad ∧ wr.cell? (ad.add i) = some (.int .i64 (rd L (i : Int))) := by
  obtain ⟨hn, _, hC⟩ := Kd.R_reads' h.l
  obtain ⟨ad, h1, h2⟩ := Kd.at_int hC (i : Int) (by omega) (by omega)
  exact ⟨hn, ad, h1, by simpa using h2⟩
theorem wapp2 (a b c : Value) : #[a] ++ #[b, c] = #[a, b, c] := by simp
theorem newBox (w1 : World) (v : Value) (T : TypeId) : Below w1.heap.size w1 (w1.alloc (.cells #[v] T)) ∧ Blk (w1.alloc (.cells #[v] T)) w1.heap.size [v] T := ⟨(Below.refl _ _).alloc (Nat.le_refl _) _, Blk.new' w1 [v] T⟩
def lenV : Value → Nat
  | .slice _ n _ => n
  | _ => 0
theorem wyClo1_any (F : Fld) (hF : F.Ok) (s t : Int) (g d1 d2 : Nat) (w : World) (hf : IsF w g F) (h1 : Blk w d1 [.int .i64 s] 2) (h2 : Blk w d2 [.int .i64 t] 2) :
    Calls Try.prog 22 #[.pointer (some ⟨g, 0, none⟩), .pointer (some ⟨d1, 0, none⟩), .pointer (some ⟨d2, 0, none⟩)] w fun e w' => e = .returned (.bool (F.has s && F.has t)) ∧ Below w.heap.size w w' := by
  have c1 := h1.cell (i := 0) rfl
  have c2 := h2.cell (i := 0) rfl
  have HF := Lib.hid hf
  have HO := Lib.hid hF
  clear h1 h2 hf hF
  cases hs : F.has s
  · have HS := Lib.hid hs
    clear hs
    go_enter Try.func22, Try.ntmps22
    go_wp2_with (go_at_call 23; refine (has_any F _ _ _ HF.out HO.out).mono ?_; rintro e w' ⟨rfl, rfl⟩; rw [HS.out])
    go_ret
    exact ⟨rfl, Below.refl _ _⟩
  · have HS := Lib.hid hs
    clear hs
    go_enter Try.func22, Try.ntmps22
    go_wp2_with (first
      | (go_at_call_of 23 (Value.int .i64 s); refine (has_any F _ s _ HF.out HO.out).mono ?_; rintro e w' ⟨rfl, rfl⟩; rw [HS.out])
      | (go_at_call 23; refine (has_any F _ _ _ HF.out HO.out).mono ?_; rintro e w' ⟨rfl, rfl⟩))
    go_ret
    exact ⟨by rw [Bool.true_and]; rfl, Below.refl _ _⟩
set_option maxHeartbeats 1000000 in
theorem wyClo2_any {D : Nat → Int} {n m p c q x : Nat} (hlo : ∀ n, 0 ≤ D n ∧ D n ≤ 100) (hq0 : 0 < D q) (hq : q < 100) (hx : x < 100) (w : World) (hM : MapI w m n D) (hp : Blk w p [.map (some m)] 50) (hc : Blk w c [.int .i64 (q : Int)] 2) :
    Calls Try.prog 28 #[.int .i64 (x : Int), .pointer (some ⟨p, 0, none⟩), .pointer (some ⟨c, 0, none⟩)] w fun e w' => e = .returned (.bool (WY.nearer D q (x : Int))) ∧ Below w.heap.size w w' := by
  have cp := hp.cell (i := 0) rfl
  have cc := hc.cell (i := 0) rfl
  have lx := hM.look hx true
  have lq := hM.look hq false
  have HR : Hid (WY.nearer D q (x : Int) = (decide (0 < D x) && decide (D x = D q - 1))) := Lib.hid (by unfold WY.nearer; rw [Int.toNat_natCast])
  have h1 := hlo q
  have h2 := hlo x
  clear hp hc hM hlo
  generalize D q = dq at *
  generalize D x = dx at *
  rw [if_pos hq0] at lq
  simp only [if_true, Bool.false_eq_true, if_false] at lx lq
  have hs : IntKind.i64.wrap (dq - 1 - 1) = dq - 1 - 1 := by rw [IntKind.wrap_i64]; omega
  rw [HR.out]
  clear HR
  by_cases hx0 : 0 < dx
  · rw [if_pos hx0, decide_eq_true hx0] at lx
    rw [decide_eq_true hx0, Bool.true_and]
    have he : (dx - 1 == dq - 1 - 1) = decide (dx = dq - 1) := by
      by_cases h : dx = dq - 1
      · rw [decide_eq_true h]; simp; omega
      · rw [decide_eq_false h]; simp; omega
    clear hx0
    go_enter Try.func28, Try.ntmps28
    go_wp2
    go_ret
    exact ⟨by rw [← he]; rfl, Below.refl _ _⟩
  · rw [if_neg hx0, decide_eq_false hx0] at lx
    rw [decide_eq_false hx0, Bool.false_and]
    clear hx0
    go_enter Try.func28, Try.ntmps28
    go_wp2
    go_ret
    exact ⟨rfl, Below.refl _ _⟩
end Go.Proofs.Ytinpmhmagcmamaa
