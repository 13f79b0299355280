/- What the program and the reference say of lists of plots comes to the same: the plain laws that FnExactWorthOf needs. No condition but the lists' lengths. -/
import Derived.Test.YtpkapkgfmibooaaPFnExactWorthOfx4
import Derived.Test.YtpkapkgfmibooaaGB
namespace Go.Proofs.Ytpkapkgfmibooaa.PFnExactWorthOf
open Go.RowKit Go.Proofs.YtpkapkgfmibooaaW.PrintWords Go.Proofs.YtpkapkgfmibooaaW.PrintLast Go.Proofs.YtpkapkgfmibooaaW.PrintMore
set_option linter.unusedSimpArgs false
set_option linter.unusedVariables false

theorem ev_eq {α : Type} {r : α} {g : Nat → Option α} (h : ∀ k, g k = some r) : Ev g r := ⟨0, fun k _ => h k⟩
theorem ev_if {α : Type} {c : Prop} [Decidable c] {g f : Nat → Option α} {r : α} (h1 : c → Ev g r) (h2 : ¬ c → Ev f r) : Ev (fun k => if c then g k else f k) r := by
  by_cases h : c
  · simp only [h, if_true]; exact h1 h
  · simp only [h, if_false]; exact h2 h

theorem p_within (a b c : Int) : impl_within.f a b c = some (decide (b ≤ a) && decide (a ≤ c)) := by
  unfold impl_within.f; by_cases h : a ≥ b <;> simp [h]
theorem p_in (a b c : Int) : spec_l00In.f a b c = some (decide (b ≤ a) && decide (a ≤ c)) := by
  unfold spec_l00In.f; by_cases h : a ≥ b <;> simp [h]

def inB (a b c : Int) : Bool := decide (b ≤ a) && decide (a ≤ c)
def ok1 (x : S76) : Bool := inB (wrap64 x.f0) 0 1000 && (inB (wrap64 x.f1) 0 20 && (inB (wrap64 x.f2) 0 20 && inB (wrap64 x.f3) 0 1000))

theorem l07Plot_ev (x : S76) : Ev (fun k => spec_l07Plot.f k x.f0 x.f1 x.f2 x.f3) (ok1 x) := by
  refine ⟨1, fun k hk => ?_⟩
  obtain ⟨k, rfl⟩ : ∃ m, k = m + 1 := ⟨k - 1, by omega⟩
  unfold spec_l07Plot.f spec_l01Seeds.f ok1 inB
  simp only [p_in, Option.bind_some, spec_l07Plot.j0]
  generalize (decide (0 ≤ wrap64 x.f0) && decide (wrap64 x.f0 ≤ 1000)) = a
  generalize (decide (0 ≤ wrap64 x.f1) && decide (wrap64 x.f1 ≤ 20)) = b
  generalize (decide (0 ≤ wrap64 x.f2) && decide (wrap64 x.f2 ≤ 20)) = c
  generalize (decide (0 ≤ wrap64 x.f3) && decide (wrap64 x.f3 ≤ 1000)) = d
  cases a <;> cases b <;> cases c <;> cases d <;> rfl

theorem drop_rd (xs : List S76) {i : Int} (h0 : 0 ≤ i) (h : i < (xs.length : Int)) : xs.drop i.toNat = rd_T76 xs i :: xs.drop (i + 1).toNat := by
  have hl : i.toNat < xs.length := by omega
  rw [List.drop_eq_getElem_cons hl, show (i + 1).toNat = i.toNat + 1 by omega]
  congr 1
  unfold rd_T76
  rw [List.getD_eq_getElem?_getD, List.getElem?_eq_getElem hl]; rfl

theorem wrap_i {i : Int} {n : Nat} (h0 : 0 ≤ i) (h : i < (n : Int)) (hn : n ≤ 9223372036854775807) : wrap64 (i + 1) = i + 1 := by
  unfold wrap64; omega

def okAll (xs : List S76) : Bool := xs.all ok1 && decide ((xs.length : Int) ≤ 6)

theorem l07Ok_ev (xs : List S76) (hn : xs.length ≤ 9223372036854775807) (d : Nat) : ∀ i : Int, 0 ≤ i → i ≤ xs.length → (xs.length : Int) - i = d → Ev (fun k => spec_l07Ok.l0 k xs i) ((xs.drop i.toNat).all ok1 && decide ((xs.length : Int) ≤ 6)) := by
  induction d with
  | zero =>
    intro i h0 h1 hd
    refine Ev.step (fun k => by simp only [spec_l07Ok.l0]; rw [if_neg (by omega)]) (ev_eq fun k => ?_)
    rw [List.drop_of_length_le (by omega)]; rfl
  | succ d ih =>
    intro i h0 h1 hd
    have hlt : i < (xs.length : Int) := by omega
    refine Ev.step (fun k => by simp only [spec_l07Ok.l0]; rw [if_pos hlt, if_pos h0]) ?_
    rw [drop_rd xs h0 hlt]
    refine Ev.bind (l07Plot_ev _) ?_
    have h2 := ih (i + 1) (by omega) (by omega) (by omega)
    rw [wrap_i h0 hlt hn]
    cases hb : ok1 (rd_T76 xs i)
    · exact ev_eq fun k => by simp [hb]
    · simp only [if_true, List.all_cons, hb, Bool.true_and]; exact h2

theorem l07Ok (xs : List S76) (hn : xs.length ≤ 9223372036854775807) : Ev (fun k => spec_l07Ok.f k xs) (okAll xs) := by
  unfold spec_l07Ok.f
  exact l07Ok_ev xs hn xs.length 0 (by omega) (by omega) (by omega)

theorem iValid_ev (ys xs : List S76) (hn : xs.length ≤ 9223372036854775807) (d : Nat) : ∀ i : Int, 0 ≤ i → i ≤ xs.length → (xs.length : Int) - i = d → Ev (fun k => impl_ValidPlots.l0 k ys xs (xs.length : Int) i) ((xs.drop i.toNat).all ok1 && decide ((ys.length : Int) ≤ 6)) := by
  induction d with
  | zero =>
    intro i h0 h1 hd
    refine Ev.step (fun k => by simp only [impl_ValidPlots.l0]; rw [if_neg (by omega)]) (ev_eq fun k => ?_)
    rw [List.drop_of_length_le (by omega)]; rfl
  | succ d ih =>
    intro i h0 h1 hd
    have hlt : i < (xs.length : Int) := by omega
    refine Ev.step (fun k => by simp only [impl_ValidPlots.l0]; rw [if_pos hlt, if_pos h0, if_pos hlt]) ?_
    rw [drop_rd xs h0 hlt]
    have h2 := ih (i + 1) (by omega) (by omega) (by omega)
    rw [wrap_i h0 hlt hn]
    simp only [p_within, Option.bind_some, List.all_cons]
    unfold ok1 inB
    generalize (decide (0 ≤ wrap64 (rd_T76 xs i).f0) && decide (wrap64 (rd_T76 xs i).f0 ≤ 1000)) = a
    generalize (decide (0 ≤ wrap64 (rd_T76 xs i).f1) && decide (wrap64 (rd_T76 xs i).f1 ≤ 20)) = b
    generalize (decide (0 ≤ wrap64 (rd_T76 xs i).f2) && decide (wrap64 (rd_T76 xs i).f2 ≤ 20)) = c
    generalize (decide (0 ≤ wrap64 (rd_T76 xs i).f3) && decide (wrap64 (rd_T76 xs i).f3 ≤ 1000)) = e
    unfold ok1 inB at h2
    cases a <;> cases b <;> cases c <;> cases e <;> first | exact ev_eq fun k => rfl | exact h2

theorem iValid (xs : List S76) (hn : xs.length ≤ 9223372036854775807) : Ev (fun k => impl_ValidPlots.f k xs) (okAll xs) := by
  unfold impl_ValidPlots.f
  exact iValid_ev xs xs hn xs.length 0 (by omega) (by omega) (by omega)

def conv (x : S78) : S76 := ⟨x.f0, x.f1, x.f2, x.f3⟩

theorem toPlotS_ev (xs : List S78) (hn : xs.length ≤ 9223372036854775807) (d : Nat) : ∀ (i : Int) (acc : List S76), 0 ≤ i → i ≤ xs.length → (xs.length : Int) - i = d → acc.length = xs.length → acc.take i.toNat = (xs.take i.toNat).map conv →
    Ev (fun k => laws_toPlotS.l0 k xs acc i) (xs.map conv) := by
  induction d with
  | zero =>
    intro i acc h0 h1 hd hl ht
    refine Ev.step (fun k => by simp only [laws_toPlotS.l0]; rw [if_neg (by omega)]) (ev_eq fun k => ?_)
    rw [List.take_of_length_le (by omega), List.take_of_length_le (by omega)] at ht
    rw [ht]
  | succ d ih =>
    intro i acc h0 h1 hd hl ht
    have hlt : i < (xs.length : Int) := by omega
    have hn' : i.toNat < xs.length := by omega
    refine Ev.step (fun k => by simp only [laws_toPlotS.l0, laws_toPlot.f, Option.bind_some]; rw [if_pos hlt, if_pos h0, if_pos (by omega)]) ?_
    rw [wrap_i h0 hlt hn]
    refine ih (i + 1) _ (by omega) (by omega) (by omega) (by simp [hl]) ?_
    rw [show (i + 1).toNat = i.toNat + 1 by omega, List.take_succ_eq_append_getElem (by rw [List.length_set]; omega), List.take_succ_eq_append_getElem hn', List.map_append, List.take_set_of_le (Nat.le_refl _), ht]
    congr 1
    rw [List.getElem_set_self]
    unfold rd_T78 conv
    rw [List.getD_eq_getElem?_getD, List.getElem?_eq_getElem hn']; rfl

theorem toPlotS (xs : List S78) (hn : xs.length ≤ 1048576) : Ev (fun k => laws_toPlotS.f k xs) (xs.map conv) := by
  unfold laws_toPlotS.f
  simp only [show (0 : Int) ≤ (xs.length : Int) by omega, if_true, Int.toNat_natCast, show xs.length ≤ 35184372088832 by omega]
  exact toPlotS_ev xs (by omega) xs.length 0 _ (by omega) (by omega) (by omega) (by simp) (by simp)

theorem eqPlotS_ev (xs : List S76) (hn : xs.length ≤ 9223372036854775807) (d : Nat) : ∀ i : Int, 0 ≤ i → i ≤ xs.length → (xs.length : Int) - i = d → Ev (fun k => laws_eqPlotS.l0 k xs xs i) true := by
  induction d with
  | zero =>
    intro i h0 h1 hd
    exact Ev.step (fun k => by simp only [laws_eqPlotS.l0]; rw [if_neg (by omega)]) (ev_eq fun k => rfl)
  | succ d ih =>
    intro i h0 h1 hd
    have hlt : i < (xs.length : Int) := by omega
    refine Ev.step (fun k => by simp only [laws_eqPlotS.l0, laws_eqPlot.f]; rw [if_pos hlt, if_pos h0, if_pos hlt]) ?_
    simp only [if_true, Option.bind_some]
    rw [wrap_i h0 hlt hn]
    exact ih (i + 1) (by omega) (by omega) (by omega)

theorem eqPlotS (xs : List S76) (hn : xs.length ≤ 9223372036854775807) : Ev (fun k => laws_eqPlotS.f k xs xs) true := by
  unfold laws_eqPlotS.f
  simp only [if_true]
  exact eqPlotS_ev xs hn xs.length 0 (by omega) (by omega) (by omega)

theorem szPlotS (xs : List S78) (hn : xs.length ≤ 9223372036854775807) : ∃ r, laws_szPlotS.f xs 1048576 = some r ∧ (¬ r < 0 → xs.length ≤ 1048576) := by
  have e : wrap64 (1048576 - (xs.length : Int)) = 1048576 - (xs.length : Int) := by unfold wrap64; omega
  unfold laws_szPlotS.f
  rw [e]
  by_cases h : (1048576 : Int) - xs.length < 0
  · exact ⟨-1, by rw [if_pos h], by omega⟩
  · exact ⟨_, by rw [if_neg h], by omega⟩

/-- The law's shape: where the list is short, it goes on so. -/
theorem sized_law {f : Nat → Option Bool} (xs : List S78) (hn : xs.length ≤ 9223372036854775807) (h : xs.length ≤ 1048576 → Ev f true) : Ev (fun k => (laws_szPlotS.f xs 1048576).bind fun t => if t < 0 then some true else f k) true := by
  obtain ⟨r, hr, hl⟩ := szPlotS xs hn
  rw [hr]
  simp only [Option.bind_some]
  exact ev_if (fun _ => ev_eq fun _ => rfl) (fun h1 => h (hl h1))

theorem ints4 {cs : List Value} (h : R.Ints [.i16, .i16, .i16, .i16] cs) : ∃ z0 z1 z2 z3, cs = [.int .i16 z0, .int .i16 z1, .int .i16 z2, .int .i16 z3] := by
  obtain ⟨z0, c, rfl, _, h⟩ := h.cons
  obtain ⟨z1, c, rfl, _, h⟩ := h.cons
  obtain ⟨z2, c, rfl, _, h⟩ := h.cons
  obtain ⟨z3, c, rfl, _, h⟩ := h.cons
  obtain rfl := h.nil
  exact ⟨z0, z1, z2, z3, rfl⟩

/-- The argument's cells, as a list of plots. -/
theorem open_T78 {W : World} {A : Option Addr} {len cap : Nat} (h : ([Value.slice A len cap] = [.slice none 0 0]) ∨ ∃ (a : Addr) (l c : Nat), [Value.slice A len cap] = [.slice (some a) l c] ∧ l ≤ c ∧ c ≤ maxLen ∧
      ∀ i, i < l → ∃ cs : List Value, R.Ints [.i16, .i16, .i16, .i16] cs ∧ ∀ j u, cs[j]? = some u → W.cell? (a.add (i * [IntKind.i16, .i16, .i16, .i16].length + j)) = some u) :
    ∃ xs : List S78, len = xs.length ∧ xs.length ≤ cap ∧ xs.length ≤ maxLen ∧ Kd.C k78 W A xs.length xs := by
  rcases h with h | ⟨a, l, c, h, hlc, hcm, hc⟩
  · simp only [List.cons.injEq, Value.slice.injEq, and_true] at h
    obtain ⟨rfl, rfl, rfl⟩ := h
    exact ⟨[], rfl, by simp, by simp, rfl, by simp, fun h => absurd h (by simp)⟩
  · simp only [List.cons.injEq, Value.slice.injEq, and_true] at h
    obtain ⟨rfl, rfl, rfl⟩ := h
    have hm : len ≤ 9223372036854775807 := by unfold maxLen at hcm; omega
    have key : ∀ n, n ≤ len → ∃ xs : List S78, xs.length = n ∧ ∀ j p, xs[j]? = some p → ∃ c : List Value, c.length = 4 ∧ k78.K W p c ∧ ∀ i u, c[i]? = some u → W.cell? (a.add (j * 4 + i)) = some u := by
      intro n
      induction n with
      | zero => exact fun _ => ⟨[], rfl, fun j p h => by simp at h⟩
      | succ n ih =>
        intro hn
        obtain ⟨xs, hl, hx⟩ := ih (by omega)
        obtain ⟨cs, hI, hcs⟩ := hc n (by omega)
        obtain ⟨z0, z1, z2, z3, rfl⟩ := ints4 hI
        · refine ⟨xs ++ [⟨z0, z1, z2, z3⟩], by simp [hl], fun j p hj => ?_⟩
          rcases Nat.lt_or_ge j xs.length with hlt | hge
          · rw [List.getElem?_append_left hlt] at hj
            exact hx j p hj
          · have hjl := (List.getElem?_eq_some_iff.1 hj).1
            rw [List.length_append, List.length_singleton] at hjl
            obtain rfl : j = n := by omega
            rw [List.getElem?_append_right hge, hl, Nat.sub_self] at hj
            obtain rfl := Option.some.inj hj
            exact ⟨_, rfl, k78_mk W ⟨z0, z1, z2, z3⟩, hcs⟩
    obtain ⟨xs, rfl, hx⟩ := key len (Nat.le_refl _)
    exact ⟨xs, rfl, hlc, Nat.le_trans hlc hcm, rfl, hm, fun _ => ⟨a, rfl, hx⟩⟩

end Go.Proofs.Ytpkapkgfmibooaa.PFnExactWorthOf
