/- The cells of a field, as a list. No condition but that the numbers are within their kinds. -/
import Derived.Test.YtlhiaofanejcoaaF5
import Derived.Test.YtlhiaofanejcoaaWWords
import Derived.Test.YtlhiaofanejcoaaWMore
import Derived.Test.YtlhiaofanejcoaaWLast
import Derived.Test.YtlhiaofanejcoaaWInvWords
namespace Go.Proofs.Ytlhiaofanejcoaa
open Go.RowKit Go.Proofs.YtlhiaofanejcoaaW.PrintWords Go.Proofs.YtlhiaofanejcoaaW.PrintLast Go.Proofs.YtlhiaofanejcoaaW.PrintMore
set_option linter.unusedSimpArgs false
set_option linter.unusedVariables false

/-- The cells below n. -/
def Fld.cellsTo (F : Fld) : Nat → List Int
  | 0 => []
  | i + 1 => if F.has (i : Int) = true then F.cellsTo i ++ [(i : Int)] else F.cellsTo i
theorem Fld.cellsTo_len (F : Fld) : ∀ i, (F.cellsTo i).length ≤ i
  | 0 => by simp [Fld.cellsTo]
  | i + 1 => by
    have := F.cellsTo_len i
    simp only [Fld.cellsTo]
    split
    · simp; omega
    · omega
theorem info_i64 : (Try.prog.info? 2).map (fun i => (i.zero, i.size, i.bytes)) = some (some (.int .i64 0), 1, 8) := by kernel_rfl

/-- A slice of the call's own that holds these numbers. -/
def Made (w w' : World) (xs : List Int) (v : Value) : Prop := Kd.R (Kd.int .i64) 2 w' w.heap.size (fun _ => True) v xs

set_option maxHeartbeats 2000000 in
theorem cells_any (F : Fld) (ho : F.Ok) (b : Nat) (w : World) (hf : IsF w b F) :
    Calls Try.prog 73 #[.pointer (some ⟨b, 0, none⟩)] w fun e w' => ∃ v : Value, e = .returned v ∧ Made w w' (F.cellsTo 100) v ∧ Below w.heap.size w w' := by
  have HF := Lib.hid hf
  have HO := Lib.hid ho
  have hfl := hf.lt
  clear hf ho
  go_enter Try.func73, Try.ntmps73
  go_wp2_with (first
    | ((with_reducible refine gate_dst (N := 5) rfl ?_); refine Kd.R_lit (Kd.int .i64) _ 2 ?hg (N := 5) ?hd (xs := ([] : List Int)) (inner := []) (ok := fun _ => True) (okp := fun _ => True) ?hr ?hp (fun _ hk => hk) trivial (Below.refl _ _) (Nat.le_refl _) (by simp) ?_; (case hd => rfl); (case hg => rfl); (case hr => first | (go_simp; done) | (go_simp; rfl)); (case hp => exact (Reps.none _ _)); intro v1 w1 ho1 hb1 hg1 hn1; clear hg1 hn1; have HR1 := Lib.hid ho1; have HB1 := Lib.hid hb1; clear ho1 hb1))
  go_loopw [3, 6] (fun u v wr => ∃ i : Nat, i ≤ 100 ∧ v = .int .i64 i ∧ Hid (Made w wr (F.cellsTo i) u) ∧ Hid (Below w.heap.size w wr)) (fun _ v _ => 100 - (intOf v).toNat)
  case atStart => exact ⟨0, by omega, rfl, Lib.hid HR1.out, HB1⟩
  case round =>
    clear HR1 HB1
    obtain ⟨i, hi, rfl, HR, HB⟩ := hrel
    have HI := Lib.hid hi
    by_cases hlt : i < 100
    · have HL : Hid ((F.cellsTo i).length ≤ i) := Lib.hid (F.cellsTo_len i)
      cases hx : F.has (i : Int)
      · have HX := Lib.hid hx
        have HN : Hid (F.cellsTo (i + 1) = F.cellsTo i) := Lib.hid (by simp [Fld.cellsTo, hx])
        clear hx hi
        go_wp2_with (first
          | (go_at_call 89; refine (has_any F _ _ _ (HF.out.below HB.out hfl) HO.out).mono ?_; rintro e w' ⟨rfl, rfl⟩; rw [HX.out]))
        go_roundw
        case rel =>
          have h100 := HI.out
          refine ⟨i + 1, by omega, by go_num, ?_, ?_⟩
          · rw [HN.out]; exact HR
          · exact HB
        case measure => have h1 := HI.out; clear HI; simp only [intOf]; omega
      · have HX := Lib.hid hx
        have HN : Hid (F.cellsTo (i + 1) = F.cellsTo i ++ [(i : Int)]) := Lib.hid (by simp [Fld.cellsTo, hx])
        clear hx hi
        go_wp2_with (first
          | (go_at_call 89; refine (has_any F _ _ _ (HF.out.below HB.out hfl) HO.out).mono ?_; rintro e w' ⟨rfl, rfl⟩; rw [HX.out])
          | ((with_reducible refine gate_builtin (b := .append) (xs := #[.tmp 12, .tmp 14]) rfl ?_); at_builtin; refine Kd.R_append (Kd.int .i64) (w0 := w) w.heap.size rfl (.tmp 12) (.tmp 14) 102 2 (.int .i64 0) 8 rfl Try.underlying102 info_i64 rfl (by decide) (by omega) _ (F.cellsTo i) i [.int .i64 i] (fun _ => True) (fun _ => False) rfl rfl ?aP (fun _ hk => hk.elim) ?aF ?aO ?aB ?aS ?aL ?_; (case aP => exact rfl); (case aF => exact (fun _ _ => trivial)); (case aO => exact (by (with_reducible repeat (first | apply Kd.R_alloc | apply Kd.R_drewN | apply Kd.R_drew)); exact HR.out)); (case aB => exact (by repeat (first | (with_reducible first | exact HB.out | apply below_alloc | apply pw_below_drewN | apply below_drew1) | exact HB.out))); (case aS => exact (below_size (by repeat (first | (with_reducible first | exact HB.out | apply below_alloc | apply pw_below_drewN | apply below_drew1) | exact HB.out)))); (case aL => have := HL.out; omega); intro v2 w2 ho hb hg hat; rw [← HN.out] at ho; have HR2 := Lib.hid ho; have HB2 := Lib.hid hb; clear ho hb hg hat))
        go_roundw
        case rel =>
          have h100 := HI.out
          refine ⟨i + 1, by omega, by go_num, ?_, ?_⟩
          · exact HR2
          · exact HB2
        case measure => have h1 := HI.out; clear HI; simp only [intOf]; omega
    · obtain rfl : i = 100 := by omega
      clear hi
      go_wp2
      go_ret
      exact ⟨_, rfl, HR.out, HB.out⟩

end Go.Proofs.Ytlhiaofanejcoaa
