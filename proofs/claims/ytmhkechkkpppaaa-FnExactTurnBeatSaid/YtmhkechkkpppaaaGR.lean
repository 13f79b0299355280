/- slices.Grow of a nil slice and slices.Concat of two slices of small numbers. No condition but bounds of the lengths. -/
import Derived.Test.YtmhkechkkpppaaaGC
import Derived.Test.YtmhkechkkpppaaaWZeros
namespace Go.Proofs.Ytmhkechkkpppaaa
open Go.RowKit Go.Proofs.YtmhkechkkpppaaaW.PrintWords Go.Proofs.YtmhkechkkpppaaaW.PrintLast Go.Proofs.YtmhkechkkpppaaaW.PrintMore
set_option linter.unusedSimpArgs false
set_option linter.unusedVariables false

/-- A slice of small numbers of the call's own. -/
abbrev MadeB (w w' : World) (xs : List Int) (v : Value) : Prop := Kd.R (Kd.int .i16) 24 w' w.heap.size (fun _ => True) v xs
theorem info_i16 : (Try.prog.info? 24).map (fun i => (i.zero, i.size, i.bytes)) = some (some (.int .i16 0), 1, 2) := by kernel_rfl
theorem cell_keep {w w' : World} {p : Addr} {v : Value} (h : w.cell? p = some v) (hb : Below w.heap.size w w') (hl : p.block < w.heap.size) : w'.cell? p = some v := by
  rw [← h]
  unfold World.cell?
  rw [hb.block _ hl]

set_option maxHeartbeats 2000000 in
theorem grow_any (n : Nat) (h1 : 1 ≤ n) (hn : n ≤ 100) (w : World) :
    Calls Try.prog 83 #[.slice none 0 0, .int .i64 (n : Int)] w fun e w' => ∃ v : Value, e = .returned v ∧ MadeB w w' [] v ∧ Below w.heap.size w w' := by
  go_enter Try.func83, Try.ntmps83
  go_wp2_with (first
    | ((with_reducible refine gate_builtin (b := .append) (xs := #[.tmp 20, .tmp 21]) rfl ?_); at_builtin; refine Kd.R_append_zeros (Kd.int .i16) (w0 := w) w.heap.size rfl (.tmp 20) (.tmp 21) 29 3 24 (.int .i16 0) 2 rfl Try.underlying29 Try.underlying3 info_i16 rfl (by decide) (by omega) (.slice none 0 0) [] 0 (n : Int) (fun _ => True) rfl rfl rfl (fun _ _ => trivial) (Kd.R_nil _ _ _ _ _) (by omega) (Below.refl _ _) (Nat.le_refl _) (by simp; omega) ?_; intro v1 w1 ho hb hg hat; obtain ⟨A1, c1, hv1⟩ := Kd.R_slice ho; subst hv1; have HR1 := Lib.hid ho; have HB1 := Lib.hid hb; clear ho hb hg hat))
  go_ret
  exact ⟨_, rfl, Kd.R_take HR1.out (Nat.zero_le _), HB1.out⟩

def sumTo (n m : Nat) : Nat → Nat
  | 0 => 0
  | 1 => n
  | _ => n + m
def preTo (xs ys : List Int) : Nat → List Int
  | 0 => []
  | 1 => xs
  | _ => xs ++ ys
set_option maxRecDepth 100000 in
set_option maxHeartbeats 4000000 in
theorem concat_any (xs ys : List Int) (A B : Option Addr) (c d : Nat) (g : Nat) (cc : Nat) (w : World) (h0 : w.cell? ⟨g, 0, none⟩ = some (.slice A xs.length c)) (h1 : w.cell? ⟨g, 1, none⟩ = some (.slice B ys.length d)) (hp : g < w.heap.size)
    (hA : Kd.C (Kd.int .i16) w A xs.length xs) (hB : Kd.C (Kd.int .i16) w B ys.length ys) (hl : 1 ≤ xs.length + ys.length) (hu : xs.length + ys.length ≤ 100) :
    Calls Try.prog 48 #[.slice (some ⟨g, 0, none⟩) 2 cc] w fun e w' => ∃ v : Value, e = .returned v ∧ MadeB w w' (xs ++ ys) v ∧ Below w.heap.size w w' := by
  have HA := Lib.hid hA
  have HB := Lib.hid hB
  have K0 := Lib.hid (fun (w' : World) (hb : Below w.heap.size w w') => cell_keep h0 hb hp)
  have K1 := Lib.hid (fun (w' : World) (hb : Below w.heap.size w w') => cell_keep h1 hb hp)
  clear hA hB h0 h1
  go_enter Try.func48, Try.ntmps48
  go_wp2
  go_loopw [3, 11] (fun u v wr => ∃ i : Nat, i ≤ 2 ∧ v = .int .i64 i ∧ u = .int .i64 (sumTo xs.length ys.length i : Nat) ∧ Hid (Below w.heap.size w wr)) (fun _ v _ => 2 - (intOf v).toNat)
  case atStart => exact ⟨0, by omega, rfl, rfl, Lib.hid (Below.refl _ _)⟩
  case round =>
    obtain ⟨i, hi, rfl, rfl, HW⟩ := hrel
    have k0 := K0.out _ HW.out
    have k1 := K1.out _ HW.out
    have hi3 : i = 0 ∨ i = 1 ∨ i = 2 := by omega
    rcases hi3 with rfl | rfl | rfl
    · simp only [sumTo]
      go_wp2
      go_roundw
      case rel => exact ⟨1, by omega, by go_num, by simp only [sumTo] <;> go_num, HW⟩
      case measure => simp [intOf]
    · simp only [sumTo]
      go_wp2
      go_roundw
      case rel => exact ⟨2, by omega, by go_num, by simp only [sumTo] <;> go_num, HW⟩
      case measure => simp [intOf]
    · simp only [sumTo]
      go_wp2_with (first
        | (go_at_call 83; refine (grow_any (xs.length + ys.length) hl hu _).mono ?_; rintro e w2 ⟨v2, rfl, hm, hb⟩; have HM := Lib.hid (Kd.R_lower hm HW.out.size); have HW2 := Lib.hid (HW.out.trans (hb.mono HW.out.size)); clear hm hb))
      clear k0 k1
      go_loopw [6, 27] (fun u v wr => ∃ i : Nat, i ≤ 2 ∧ v = .int .i64 i ∧ Hid (MadeB w wr (preTo xs ys i) u) ∧ Hid (Below w.heap.size w wr)) (fun _ v _ => 2 - (intOf v).toNat)
      case atStart => exact ⟨0, by omega, rfl, HM, HW2⟩
      case round =>
        obtain ⟨i, hi, rfl, HRr, HW3⟩ := hrel
        have k0 := K0.out _ HW3.out
        have k1 := K1.out _ HW3.out
        have hi3 : i = 0 ∨ i = 1 ∨ i = 2 := by omega
        rcases hi3 with rfl | rfl | rfl
        · go_wp2_with (first
            | ((with_reducible refine gate_builtin (b := .append) (xs := #[.tmp 31, .tmp 32]) rfl ?_); at_builtin; refine Kd.R_append_rows (Kd.int .i16) (w0 := w) w.heap.size rfl (.tmp 31) (.tmp 32) 29 24 (.int .i16 0) 2 rfl Try.underlying29 info_i16 rfl (by decide) (by omega) _ ([]) (xs) _ _ _ (fun _ => True) (fun _ => False) rfl rfl HRr.out (Kd.C_below HA.out HW3.out) (fun _ _ h => h) (fun _ h => h.elim) (fun _ _ => trivial) HW3.out HW3.out.size (by first | omega | (simp; omega)) ?_; intro v5 w5 ho hb hg hat; have HR5 := Lib.hid ho; have HB5 := Lib.hid hb; clear ho hb hg hat))
          go_roundw
          case rel => exact ⟨1, by omega, by go_num, HR5, HB5⟩
          case measure => simp [intOf]
        · go_wp2_with (first
            | ((with_reducible refine gate_builtin (b := .append) (xs := #[.tmp 31, .tmp 32]) rfl ?_); at_builtin; refine Kd.R_append_rows (Kd.int .i16) (w0 := w) w.heap.size rfl (.tmp 31) (.tmp 32) 29 24 (.int .i16 0) 2 rfl Try.underlying29 info_i16 rfl (by decide) (by omega) _ (xs) (ys) _ _ _ (fun _ => True) (fun _ => False) rfl rfl HRr.out (Kd.C_below HB.out HW3.out) (fun _ _ h => h) (fun _ h => h.elim) (fun _ _ => trivial) HW3.out HW3.out.size (by first | omega | (simp; omega)) ?_; intro v5 w5 ho hb hg hat; have HR5 := Lib.hid ho; have HB5 := Lib.hid hb; clear ho hb hg hat))
          go_roundw
          case rel => exact ⟨2, by omega, by go_num, HR5, HB5⟩
          case measure => simp [intOf]
        · go_wp2
          go_ret
          exact ⟨_, rfl, HRr.out, HW3.out⟩

end Go.Proofs.Ytmhkechkkpppaaa
