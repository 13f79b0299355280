/- Flocks: whether their numbers are as told, by the program. No condition but that the numbers are within their kinds. -/
import Derived.Test.YtlhiaofanejcoaaK1
import Derived.Test.YtlhiaofanejcoaaV0
namespace Go.Proofs.Ytlhiaofanejcoaa
open Go.RowKit Go.Proofs.YtlhiaofanejcoaaW.PrintWords Go.Proofs.YtlhiaofanejcoaaW.PrintLast Go.Proofs.YtlhiaofanejcoaaW.PrintMore Go.Proofs.Ytlhiaofanejcoaa.PAll
set_option linter.unusedSimpArgs false
set_option linter.unusedVariables false

def flkB (x : S39) (i : Nat) : Bool := inB (nth (flkNums x) i) 0 (nth flkMost i)
def flkPlain (x : S39) : Bool := allB 6 (flkB x)

set_option maxHeartbeats 2000000 in
theorem isPlain_any (x : S39) (hx : FlkOk x) (g : Nat) (w : World) (hB : Blk w g (flkVals x) 39) :
    Calls Try.prog 94 #[.pointer (some ⟨g, 0, none⟩)] w fun e w' => e = .returned (.bool (flkPlain x)) ∧ Below w.heap.size w w' := by
  have hz := zero6
  have HX := Lib.hid hx
  have HB := Lib.hid hB
  clear hx hB
  go_enter Try.func94, Try.ntmps94
  go_upto_region 2 with (first
    | (go_at_call 97; refine (numbersOf_any x HX.out _ _ HB.out).mono ?_; rintro e w1 ⟨rfl, hb⟩; have HB1 := Lib.hid hb; clear hb)
    | (with_reducible refine wpList_store_all rfl 121 (.tmp 3) (.tmp 10) rfl _ (vrow .i64 (flkNums x)) rfl rfl ((Blk.new' w1 (zrow .i64 6) 121).alloc _) rfl (by kernel_rfl) (vrow_one _ _) ?_)
    | (with_reducible refine wpList_store_all rfl 121 (.tmp 4) (.tmp 11) rfl _ (vrow .i64 flkMost) rfl rfl ((Blk.newAt (by simp)).rowOther (by omega) _) rfl (by kernel_rfl) (vrow_one _ _) ?_))
  obtain ⟨W, hW⟩ : ∃ W, W = (((w1.alloc (.cells (zrow .i64 6).toArray 121)).alloc (.cells (zrow .i64 6).toArray 121)).setRow w1.heap.size (vrow .i64 (flkNums x)).toArray).setRow (w1.heap.size + 1) (vrow .i64 flkMost).toArray := ⟨_, rfl⟩
  have HL : Hid (Blk W w1.heap.size (vrow .i64 (flkNums x)) 121) := Lib.hid (by rw [hW]; exact (((Blk.new' w1 (zrow .i64 6) 121).alloc _).row _).rowOther (by omega) _)
  have HM : Hid (Blk W (w1.heap.size + 1) (vrow .i64 flkMost) 121) := Lib.hid (by rw [hW]; exact ((Blk.newAt (by simp)).rowOther (by omega) _).row _)
  have HBW : Hid (Below w.heap.size w W) := Lib.hid (by
    rw [hW]
    have h1 := HB1.out.size
    exact below_setRow (below_setRow ((HB1.out.alloc h1 _).alloc (by simp; omega) _) (by omega) _) (by omega) _)
  rw [← hW]
  clear hW
  go_wp2_with (first
    | (with_reducible refine wpList_load_blk rfl 121 (.tmp 3) rfl _ 0 rfl (vrow .i64 (flkNums x)) _ HL.out rfl Try.underlying121 rfl (by kernel_rfl) ?_))
  go_loop [13] (fun v => ∃ i : Nat, i ≤ 6 ∧ v = .int .i64 i ∧ Hid (∀ j, j < i → flkB x j = true)) (fun v => 6 - (intOf v).toNat)
  case atStart => exact ⟨0, by omega, rfl, Lib.hid (fun j hj => by omega)⟩
  case round =>
    obtain ⟨i, hi, rfl, HR⟩ := hrel
    by_cases hlt : i < 6
    · have hix : ∀ w, (Instr.index 121 (.agg (vrow .i64 (flkNums x)).toArray) (.int .i64 i)).run Try.prog w = .ok (.int .i64 (nth (flkNums x) i)) w := fun w => run_index_row w 121 2 .i64 .i64 6 Try.underlying121 Try.underlying2 (size_of_info (by kernel_rfl)) (flkNums x) rfl hlt
      have c1 := HM.out.cell (vrow_get (k := .i64) (zs := flkMost) (i := i) hlt)
      cases hb : flkB x i
      · have HQ : Hid (inB (nth (flkNums x) i) 0 (nth flkMost i) = false) := Lib.hid hb
        have HF : Hid (flkPlain x = false) := Lib.hid (allB_no i hlt hb)
        clear hb
        go_wp2_with (go_at_call 75; refine (within_any _ _ _ _).mono ?_; rintro e w' ⟨rfl, rfl⟩; rw [HQ.out])
        go_ret
        exact ⟨ret_bool HF.out.symm, HBW.out⟩
      · have HQ : Hid (inB (nth (flkNums x) i) 0 (nth flkMost i) = true) := Lib.hid hb
        clear hb
        go_wp2_with (go_at_call 75; refine (within_any _ _ _ _).mono ?_; rintro e w' ⟨rfl, rfl⟩; rw [HQ.out])
        go_round
        case rel => exact ⟨i + 1, by omega, by go_num, Lib.hid (fun j hj => by
          rcases Nat.lt_or_ge j i with h | h
          · exact HR.out j h
          · have e : j = i := by omega
            rw [e]; exact HQ.out)⟩
        case measure => simp only [intOf]; omega
    · have HF : Hid (flkPlain x = true) := Lib.hid (allB_yes fun j hj => HR.out j (by omega))
      go_wp2
      go_ret
      exact ⟨ret_bool HF.out.symm, HBW.out⟩

/-- Whether a flock is as told for a field. -/
def flkOn (F : Fld) (x : S39) : Bool := flkPlain x && (F.has x.f0 && (F.kind x.f0.toNat == 3))
def FlksOk (xs : List S39) : Prop := ∀ i : Nat, i < xs.length → FlkOk (rd_T39 xs (i : Int))
def flksOn (F : Fld) (xs : List S39) : Bool := allB xs.length (fun i => flkOn F (rd_T39 xs (i : Int))) && decide (xs.length ≤ 12)

set_option maxHeartbeats 4000000 in
theorem areFlocks_any (F : Fld) (hF : F.Ok) (xs : List S39) (hx : FlksOk xs) (g : Nat) (A : Option Addr) (c : Nat) (w : World) (hf : IsF w g F) (hA : Kd.C k39 w A xs.length xs) :
    Calls Try.prog 78 #[.pointer (some ⟨g, 0, none⟩), .slice A xs.length c] w fun e w' => e = .returned (.bool (flksOn F xs)) ∧ Below w.heap.size w w' := by
  have HF := Lib.hid hf
  have HO := Lib.hid hF
  have HX := Lib.hid hx
  have HA := Lib.hid hA
  have hlen := hA.2.1
  clear hf hF hx hA
  go_enter Try.func78, Try.ntmps78
  go_wp2
  go_loopw [9] (fun v wr => ∃ i : Nat, i ≤ xs.length ∧ v = .int .i64 i ∧ Hid (∀ j, j < i → flkOn F (rd_T39 xs (j : Int)) = true) ∧ Hid (Below w.heap.size w wr)) (fun v _ => xs.length - (intOf v).toNat)
  case atStart => exact ⟨0, by omega, rfl, Lib.hid (fun j hj => by omega), Lib.hid (Below.refl _ _)⟩
  case round =>
    obtain ⟨i, hi, rfl, HR, HB⟩ := hrel
    by_cases hlt : i < xs.length
    · obtain ⟨ad, hA, x0, x1, x2, x3, x4, x5⟩ := at_T39 (Kd.C_below HA.out HB.out) (i : Int) (by omega) (by omega)
      subst hA
      rw [Int.toNat_natCast] at x0 x1 x2 x3 x4 x5
      have HXi := Lib.hid (HX.out i hlt)
      have HNo : Hid (flkOn F (rd_T39 xs (i : Int)) = false → flksOn F xs = false) := Lib.hid (fun h => by unfold flksOn; rw [allB_no i hlt h]; rfl)
      obtain ⟨x, hxe⟩ : ∃ x, x = rd_T39 xs (i : Int) := ⟨_, rfl⟩
      rw [← hxe] at x0 x1 x2 x3 x4 x5 HXi HNo
      have HXE := Lib.hid hxe.symm
      clear hxe
      go_upto_region 4 with (fail)
      obtain ⟨W, hW⟩ : ∃ W, W = wr.alloc (.cells (flkVals x).toArray 39) := ⟨_, rfl⟩
      have HC : Hid (Cls w [(g, F.vals, 30), (wr.heap.size, flkVals x, 39)] W) := Lib.hid (by
        rw [hW]
        refine ⟨HB.out.alloc HB.out.size _, fun y hy => ?_⟩
        rcases List.mem_cons.1 hy with rfl | hy
        · exact (HF.out.below HB.out HF.out.lt).alloc _
        · rw [List.mem_singleton.1 hy]; exact Blk.new' _ _ _)
      have hW' : wr.alloc (.cells #[.int .i16 x.f0, .int .i16 x.f1, .int .i16 x.f2, .int .i16 x.f3, .int .i16 x.f4, .int .i8 x.f5] 39) = W := hW.symm
      rw [hW']
      clear hW hW' x0 x1 x2 x3 x4 x5
      refine wp_region_class (Cls w [(g, F.vals, 30), (wr.heap.size, flkVals x, 39)]) (by kernel_rfl) (by kernel_rfl) HC.out.drew ?_
      have e0 : IntKind.i64.wrap x.f0 = x.f0 := by rw [IntKind.wrap_i64]; have := HXi.out.a0; have := HXi.out.a1; omega
      cases hp : flkPlain x
      · have HP := Lib.hid hp
        have HN := Lib.hid (HNo.out (by unfold flkOn; rw [hp]; rfl))
        clear hp
        repeat (first
          | ((with_reducible refine q_gate (some 13) rfl ?_); refine q_call (some 13) rfl (by kernel_rfl) Try.func94 (by kernel_rfl) rfl #[.pointer (some ⟨wr.heap.size, 0, none⟩)] rfl (by simp only [List.map_toArray, List.map_cons, List.map_nil]; kernel_rfl) (.bool false) (fun w1 h1 => by rw [← HP.out]; exact h1.calls (isPlain_any x HXi.out _ _ (h1.blk (wr.heap.size, flkVals x, 39) (by simp)))) ?_)
          | ((with_reducible refine q_auto (fun K hK => ?_)); go_simp; refine hK _ ?_; clear hK K))
        refine wpQuiet_nil ?_
        intro w3 hc3
        have HC3 := Lib.hid hc3
        clear hc3
        go_wp2
        go_ret
        exact ⟨ret_bool HN.out.symm, HC3.out.below⟩
      · have HP := Lib.hid hp
        cases hh : F.has x.f0
        · have HH := Lib.hid hh
          have HN := Lib.hid (HNo.out (by unfold flkOn; rw [hp, hh]; rfl))
          clear hp hh
          repeat (first
            | ((with_reducible refine q_gate (some 13) rfl ?_); refine q_call (some 13) rfl (by kernel_rfl) Try.func94 (by kernel_rfl) rfl #[.pointer (some ⟨wr.heap.size, 0, none⟩)] rfl (by simp only [List.map_toArray, List.map_cons, List.map_nil]; kernel_rfl) (.bool true) (fun w1 h1 => by rw [← HP.out]; exact h1.calls (isPlain_any x HXi.out _ _ (h1.blk (wr.heap.size, flkVals x, 39) (by simp)))) ?_)
            | ((with_reducible refine q_gate (some 18) rfl ?_); refine q_cell (some 18) rfl (by kernel_rfl) 24 (.tmp 17) rfl wr.heap.size 0 (by kernel_rfl) (fun w1 h1 => h1.blk (wr.heap.size, flkVals x, 39) (by simp)) (z := x.f0) rfl Try.underlying24 ?_)
            | ((with_reducible refine q_gate (some 20) rfl ?_); refine q_call (some 20) rfl (by kernel_rfl) Try.func89 (by kernel_rfl) rfl #[.pointer (some ⟨g, 0, none⟩), .int .i64 x.f0] rfl (by simp only [List.map_toArray, List.map_cons, List.map_nil]; kernel_rfl) (.bool false) (fun w1 h1 => by rw [← HH.out]; exact h1.calls' (has_any F g x.f0 w1 (h1.blk (g, F.vals, 30) (by simp)) HO.out)) ?_)
            | ((with_reducible refine q_auto (fun K hK => ?_)); go_simp; refine hK _ ?_; clear hK K))
          refine wpQuiet_nil ?_
          intro w3 hc3
          have HC3 := Lib.hid hc3
          clear hc3
          go_wp2
          go_ret
          exact ⟨ret_bool HN.out.symm, HC3.out.below⟩
        · obtain ⟨k, hk, hk2⟩ := has_nat hh
          have HK0 : Hid ((flkVals x)[0]? = some (.int .i16 (k : Int))) := Lib.hid (by rw [← hk]; rfl)
          have HH : Hid (F.has (k : Int) = true) := Lib.hid (by rw [← hk]; exact hh)
          have hk3 : (0 : Int) ≤ (k : Int) := by omega
          have hk4 : (k : Int) < 100 := by omega
          have e1 : IntKind.i64.wrap (k : Int) = (k : Int) := by rw [IntKind.wrap_i64]; omega
          cases h3 : (F.kind k == 3)
          · have HN := Lib.hid (HNo.out (by unfold flkOn; rw [hp, hh, hk, Int.toNat_natCast, h3]; rfl))
            clear hp hh hk e0
            repeat (first
              | ((with_reducible refine q_gate (some 13) rfl ?_); refine q_call (some 13) rfl (by kernel_rfl) Try.func94 (by kernel_rfl) rfl #[.pointer (some ⟨wr.heap.size, 0, none⟩)] rfl (by simp only [List.map_toArray, List.map_cons, List.map_nil]; kernel_rfl) (.bool true) (fun w1 h1 => by rw [← HP.out]; exact h1.calls (isPlain_any x HXi.out _ _ (h1.blk (wr.heap.size, flkVals x, 39) (by simp)))) ?_)
              | ((with_reducible refine q_gate (some 18) rfl ?_); refine q_cell (some 18) rfl (by kernel_rfl) 24 (.tmp 17) rfl wr.heap.size 0 (by kernel_rfl) (fun w1 h1 => h1.blk (wr.heap.size, flkVals x, 39) (by simp)) (z := (k : Int)) HK0.out Try.underlying24 ?_)
              | ((with_reducible refine q_gate (some 20) rfl ?_); refine q_call (some 20) rfl (by kernel_rfl) Try.func89 (by kernel_rfl) rfl #[.pointer (some ⟨g, 0, none⟩), .int .i64 k] rfl (by simp only [List.map_toArray, List.map_cons, List.map_nil]; kernel_rfl) (.bool true) (fun w1 h1 => by rw [← HH.out]; exact h1.calls' (has_any F g k w1 (h1.blk (g, F.vals, 30) (by simp)) HO.out)) ?_)
              | ((with_reducible refine q_gate (some 26) rfl ?_); refine q_cell (some 26) rfl (by kernel_rfl) 24 (.tmp 25) rfl wr.heap.size 0 (by kernel_rfl) (fun w1 h1 => h1.blk (wr.heap.size, flkVals x, 39) (by simp)) (z := (k : Int)) HK0.out Try.underlying24 ?_)
              | ((with_reducible refine q_gate (some 30) rfl ?_); refine q_cell (some 30) rfl (by kernel_rfl) 5 (.tmp 29) rfl g (2 + k) (by kernel_rfl) (fun w1 h1 => h1.blk (g, F.vals, 30) (by simp)) (z := F.kind k) (Fld.vk HO.out hk2) Try.underlying5 ?_)
              | ((with_reducible refine q_auto (fun K hK => ?_)); go_simp; refine hK _ ?_; clear hK K))
            refine wpQuiet_nil ?_
            intro w3 hc3
            have HC3 := Lib.hid hc3
            clear hc3
            go_wp2
            go_ret
            exact ⟨ret_bool HN.out.symm, HC3.out.below⟩
          · have HY : Hid (flkOn F x = true) := Lib.hid (by unfold flkOn; rw [hp, hh, hk, Int.toNat_natCast, h3]; rfl)
            clear hp hh hk e0
            repeat (first
              | ((with_reducible refine q_gate (some 13) rfl ?_); refine q_call (some 13) rfl (by kernel_rfl) Try.func94 (by kernel_rfl) rfl #[.pointer (some ⟨wr.heap.size, 0, none⟩)] rfl (by simp only [List.map_toArray, List.map_cons, List.map_nil]; kernel_rfl) (.bool true) (fun w1 h1 => by rw [← HP.out]; exact h1.calls (isPlain_any x HXi.out _ _ (h1.blk (wr.heap.size, flkVals x, 39) (by simp)))) ?_)
              | ((with_reducible refine q_gate (some 18) rfl ?_); refine q_cell (some 18) rfl (by kernel_rfl) 24 (.tmp 17) rfl wr.heap.size 0 (by kernel_rfl) (fun w1 h1 => h1.blk (wr.heap.size, flkVals x, 39) (by simp)) (z := (k : Int)) HK0.out Try.underlying24 ?_)
              | ((with_reducible refine q_gate (some 20) rfl ?_); refine q_call (some 20) rfl (by kernel_rfl) Try.func89 (by kernel_rfl) rfl #[.pointer (some ⟨g, 0, none⟩), .int .i64 k] rfl (by simp only [List.map_toArray, List.map_cons, List.map_nil]; kernel_rfl) (.bool true) (fun w1 h1 => by rw [← HH.out]; exact h1.calls' (has_any F g k w1 (h1.blk (g, F.vals, 30) (by simp)) HO.out)) ?_)
              | ((with_reducible refine q_gate (some 26) rfl ?_); refine q_cell (some 26) rfl (by kernel_rfl) 24 (.tmp 25) rfl wr.heap.size 0 (by kernel_rfl) (fun w1 h1 => h1.blk (wr.heap.size, flkVals x, 39) (by simp)) (z := (k : Int)) HK0.out Try.underlying24 ?_)
              | ((with_reducible refine q_gate (some 30) rfl ?_); refine q_cell (some 30) rfl (by kernel_rfl) 5 (.tmp 29) rfl g (2 + k) (by kernel_rfl) (fun w1 h1 => h1.blk (g, F.vals, 30) (by simp)) (z := F.kind k) (Fld.vk HO.out hk2) Try.underlying5 ?_)
              | ((with_reducible refine q_auto (fun K hK => ?_)); go_simp; refine hK _ ?_; clear hK K))
            refine wpQuiet_nil ?_
            intro w3 hc3
            have HC3 := Lib.hid hc3
            clear hc3
            go_wp2
            go_roundw
            case rel => exact ⟨i + 1, by omega, by go_num, Lib.hid (fun j hj => by
              rcases Nat.lt_or_ge j i with h | h
              · exact HR.out j h
              · have e : j = i := by omega
                rw [e, HXE.out]; exact HY.out), Lib.hid HC3.out.below⟩
            case measure => simp only [intOf]; omega
    · have HE : Hid (flksOn F xs = decide (xs.length ≤ 12)) := Lib.hid (by unfold flksOn; rw [allB_yes fun j hj => HR.out j (by omega)]; rfl)
      by_cases h12 : xs.length ≤ 12
      · have HN : Hid (flksOn F xs = true) := Lib.hid (by rw [HE.out, decide_eq_true h12])
        go_wp2
        go_ret
        exact ⟨ret_bool (by rw [HN.out]; simp; omega), HB.out⟩
      · have HN : Hid (flksOn F xs = false) := Lib.hid (by rw [HE.out, decide_eq_false h12])
        go_wp2
        go_ret
        exact ⟨ret_bool (by rw [HN.out]; simp; omega), HB.out⟩
end Go.Proofs.Ytlhiaofanejcoaa
