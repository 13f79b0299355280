/- What the library's variables hold, as the row lists it; numbers read and written in decimal, strings cut at a byte, by the library's functions. No condition but those that each theorem names. -/
import Derived.Test.YtfeniekapmbjjaaDoorSi
import Derived.Test.YtfeniekapmbjjaaDoorSPL
import Derived.Test.YtfeniekapmbjjaaDoorSBd
import Derived.Test.YtfeniekapmbjjaaDoorWWords
import Derived.Test.YtfeniekapmbjjaaDoorWMore
import Derived.Test.YtfeniekapmbjjaaDoorWLast
import Derived.WalkKit
import Derived.WalkSmall
import Derived.KernelRfl
import Derived.Lib.SmallJoins
import Derived.Lib.ParseIntBTie
import Derived.Lib.AppendIntMem
namespace Go.Proofs.YtfeniekapmbjjaaDoor
open Go.RowKit Go.Proofs.YtfeniekapmbjjaaDoorW.PrintWords Go.Proofs.YtfeniekapmbjjaaDoorW.PrintLast Go.Proofs.YtfeniekapmbjjaaDoorW.PrintMore
set_option linter.unusedSimpArgs false
set_option linter.unusedVariables false

theorem gMax : Tryd.prog.globalNamed "internal/bytealg.MaxLen" = some 0 := by kernel_rfl
theorem gSyn : Tryd.prog.globalNamed "strconv.ErrSyntax" = some 2 := by kernel_rfl
theorem gRng : Tryd.prog.globalNamed "strconv.ErrRange" = some 3 := by kernel_rfl
/-- What the library's variables hold. -/
structure Glob (w : World) : Prop where
  ml : ∃ m, w.cell? ⟨0, 0, none⟩ = some (.int .i64 m)
  syn : ∃ tp p, w.var? Tryd.prog "strconv.ErrSyntax" = some #[.iface tp p]
  rng : ∃ tp p, w.var? Tryd.prog "strconv.ErrRange" = some #[.iface tp p]
  tab : Lib.TabIs Tryd.prog w "internal/strconv.uint64pow10" .u64 Lib.pow10Tab
theorem var_lt {w : World} {n : String} {g : Nat} {cs : Array Value} (hg : Tryd.prog.globalNamed n = some g) (h : w.var? Tryd.prog n = some cs) : g < w.heap.size := by
  unfold World.var? at h
  simp only [hg, Option.bind_some] at h
  rcases Nat.lt_or_ge g w.heap.size with h' | h'
  · exact h'
  · rw [Array.getElem?_eq_none h'] at h; cases h
theorem Glob.below {w w1 : World} (h : Glob w) (hb : Below w.heap.size w w1) : Glob w1 := by
  obtain ⟨m, h1⟩ := h.ml
  obtain ⟨t2, p2, h2⟩ := h.syn
  obtain ⟨t3, p3, h3⟩ := h.rng
  exact ⟨⟨m, pw_cell_below hb h1⟩, ⟨t2, p2, var?_below hb gSyn (var_lt gSyn h2) h2⟩, ⟨t3, p3, var?_below hb gRng (var_lt gRng h3) h3⟩, var?_below hb gTab (var_lt gTab h.tab) h.tab⟩

theorem format_any (n : Int) (h0 : 0 ≤ n) (h1 : n ≤ 1000000) (w : World) (hG : Glob w) : Calls Tryd.prog 39 #[.int .i64 n, .int .i64 10] w fun e w' => e = .returned (.string (dec n)) ∧ Below w.heap.size w w' := by
  refine (Tryd.strconv_FormatInt_10 n (by omega) (by omega) w hG.tab).mono ?_
  rintro e w' ⟨rfl, k, os, rfl⟩
  have e : Lib.itoa n = Lib.decDigits n.toNat := by unfold Lib.itoa; rw [if_neg (by omega)]
  exact ⟨by rw [e]; rfl, Lib.below_grow _ _ (Nat.le_refl _) _ _⟩
/-- A word read as a number within bounds, and whether it is one without needless signs. -/
def parseF (s : ByteArray) (lo hi : Int) : Int × Bool :=
  match Lib.parseIntB 64 s.data.toList with
  | .ok v => (v, (decide (lo ≤ v) && decide (v ≤ hi)) && (dec v).toList == s.toList)
  | .range => (Lib.intSat 64 s.data.toList, false)
  | _ => (0, false)
theorem xwithin_any (a b c : Int) (w : World) : Calls Tryd.prog 44 #[.int .i64 a, .int .i64 b, .int .i64 c] w fun e w' => e = .returned (.bool (decide (b ≤ a) && decide (a ≤ c))) ∧ w = w' := by
  by_cases h : b ≤ a
  · have hb : decide (b ≤ a) = true := decide_eq_true h
    rw [hb]
    go_enter Tryd.func44, Tryd.ntmps44
    go_wp2
    go_ret
    exact ⟨by simp, rfl⟩
  · have hb : decide (b ≤ a) = false := decide_eq_false h
    rw [hb]
    go_enter Tryd.func44, Tryd.ntmps44
    go_wp2
    go_ret
    exact ⟨by simp, rfl⟩
theorem parse_any (s : ByteArray) (lo hi : Int) (hlo : 0 ≤ lo) (hhi : hi ≤ 1000000) (hs : s.size ≤ 281474976710656) (w : World) (hG : Glob w) :
    Calls Tryd.prog 29 #[.string s, .int .i64 lo, .int .i64 hi] w fun e w' => e = .returned (.tuple #[.int .i64 (parseF s lo hi).1, .bool (parseF s lo hi).2]) ∧ Below w.heap.size w w' := by
  obtain ⟨t2, p2, h2⟩ := hG.syn
  obtain ⟨t3, p3, h3⟩ := hG.rng
  unfold parseF
  rcases hp : Lib.parseIntB 64 s.data.toList with v | _ | _
  · have hb := Lib.parseIntB_bounds hp
    have hc := Tryd.strconv_ParseInt_10_at64_ok s (by omega) v hp w
    clear h2 h3 hp
    have hcw : ∀ w1, (w1 = w ∨ ∃ t, w1 = Lib.bytesWorld w 5 t) → Below w.heap.size w w1 := fun w1 h => by
      rcases h with rfl | ⟨t, rfl⟩
      · exact Below.refl _ _
      · exact bytes_below (Below.refl _ _) (Nat.le_refl _) _ _
    have hww := fun w1 => xwithin_any v lo hi w1
    show Calls _ _ _ _ fun e w' => e = .returned (.tuple #[.int .i64 v, .bool ((decide (lo ≤ v) && decide (v ≤ hi)) && (dec v).toList == s.toList)]) ∧ _
    cases hw1 : (decide (lo ≤ v) && decide (v ≤ hi)) with
    | false =>
      rw [hw1] at hww
      rw [Bool.false_and]
      clear hw1
      go_enter Tryd.func29, Tryd.ntmps29
      go_wp2_with (first | (go_at_call 46; refine hc.mono ?_; rintro e w1 ⟨rfl, hw⟩; replace hw := hcw _ hw) | (go_at_call 44; refine (hww _).mono ?_; rintro e w2 ⟨rfl, rfl⟩) | go_in)
      go_ret2
      exact ⟨rfl, by repeat (first | (with_reducible first | exact hw | apply below_alloc | apply pw_below_drewN | apply below_drew1))⟩
    | true =>
      have hf := fun w1 (h : Below w.heap.size w w1) => (format_any v (by simp at hw1; omega) (by simp at hw1; omega) w1 (hG.below h)).mono (R' := fun e w' => e = .returned (.string (dec v)) ∧ Below w.heap.size w w') (fun e w' ⟨a, b⟩ => ⟨a, h.trans (b.mono h.size)⟩)
      rw [hw1] at hww
      rw [Bool.true_and]
      clear hw1
      generalize dec v = dv at *
      cases he : dv.toList == s.toList with
      | true =>
        have he := Lib.hid he
        go_enter Tryd.func29, Tryd.ntmps29
        go_wp2_with (first | (go_at_call 46; refine hc.mono ?_; rintro e w1 ⟨rfl, hw⟩; replace hw := hcw _ hw) | (go_at_call 44; refine (hww _).mono ?_; rintro e w2 ⟨rfl, rfl⟩) | (go_at_call 39; refine (hf _ (by repeat (first | (with_reducible first | exact hw | apply below_alloc | apply pw_below_drewN | apply below_drew1)))).mono ?_; rintro e w3 ⟨rfl, hw3⟩) | go_in)
        go_ret2
        exact ⟨rfl, by repeat (first | (with_reducible first | exact hw3 | apply below_alloc | apply pw_below_drewN | apply below_drew1))⟩
      | false =>
        have he := Lib.hid he
        go_enter Tryd.func29, Tryd.ntmps29
        go_wp2_with (first | (go_at_call 46; refine hc.mono ?_; rintro e w1 ⟨rfl, hw⟩; replace hw := hcw _ hw) | (go_at_call 44; refine (hww _).mono ?_; rintro e w2 ⟨rfl, rfl⟩) | (go_at_call 39; refine (hf _ (by repeat (first | (with_reducible first | exact hw | apply below_alloc | apply pw_below_drewN | apply below_drew1)))).mono ?_; rintro e w3 ⟨rfl, hw3⟩) | go_in)
        go_ret2
        exact ⟨rfl, by repeat (first | (with_reducible first | exact hw3 | apply below_alloc | apply pw_below_drewN | apply below_drew1))⟩
  · have hc := Tryd.strconv_ParseInt_10_at64_syntax_var s hs hp t2 p2 w h2
    clear h2 h3 hG hp
    go_enter Tryd.func29, Tryd.ntmps29
    go_wp2_with (first | (go_at_call 46; refine hc.mono ?_; rintro e w1 ⟨N, rfl, -, -, hb⟩) | go_in)
    go_ret2
    exact ⟨rfl, hb⟩
  · have hc := Tryd.strconv_ParseInt_10_at64_range_var s hs hp t3 p3 w h3
    clear h2 h3 hG hp
    go_enter Tryd.func29, Tryd.ntmps29
    go_wp2_with (first | (go_at_call 46; refine hc.mono ?_; rintro e w1 ⟨N, rfl, -, -, hb⟩) | go_in)
    go_ret2
    exact ⟨rfl, hb⟩
/-- A text cut at a byte. -/
theorem split_any (s : ByteArray) (c : UInt8) (hs : s.size ≤ 4000000000) (w : World) (hG : Glob w) :
    Calls Tryd.prog 28 #[.string s, .string ⟨#[c]⟩] w fun e w' => ∃ v, e = .returned v ∧ Kd.R Kd.string 9 w' w.heap.size (fun _ => True) v (strs (sp c s.data.toList)) ∧ Below w.heap.size w w' := by
  obtain ⟨m, hm⟩ := hG.ml
  refine (Tryd.strings_Split s ⟨#[c]⟩ m w (by omega) hm (by show 1 ≤ 1; omega)).mono ?_
  rintro e w' ⟨rfl, rfl⟩
  rw [pieces, ← pieces_len]
  have hl := sp_len c s.data.toList
  have hsz : s.data.toList.length = s.size := by rw [Lib.size_eq]
  refine ⟨_, rfl, Kd.R_of_own (e := 9) ?_ (fun _ _ => trivial), below_alloc (Below.refl _ _) _⟩
  have h2 := World.ownsRow_lit (base := w.heap.size) (e := 9) (size := 1) w ((strs (sp c s.data.toList)).map Value.string).toArray (strs (sp c s.data.toList)).length (Nat.le_refl _) (by rw [strs_len]; unfold maxLen; omega) (by simp)
  simpa [encs] using h2
end Go.Proofs.YtfeniekapmbjjaaDoor
