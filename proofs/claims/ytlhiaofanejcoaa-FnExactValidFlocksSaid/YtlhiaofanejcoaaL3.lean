/- The losses of all cells, by the program and by the reference: the same. No condition but that the numbers are within their kinds. -/
import Derived.Test.YtlhiaofanejcoaaL2
import Derived.Test.YtlhiaofanejcoaaH
import Derived.Test.YtlhiaofanejcoaaG2
namespace Go.Proofs.Ytlhiaofanejcoaa
open Go.RowKit
set_option linter.unusedSimpArgs false
set_option linter.unusedVariables false

/-- A body that ends with two results, the first of which lies in a block. -/
theorem post_blk2 {P : Program} {fn : Func} {R : Ending → World → Prop} {a : Act} {w : World} {p q : Tmp} {ty T : TypeId} {g : Nat} {cs : List Value} {d : TypeDesc} {v : Value} (hr : fn.results = #[.cell p ty, .tmp q]) (hd : a.defers = [])
    (hp : a.tmps.getD p undef = .pointer (some ⟨g, 0, none⟩)) (hq : a.tmps.getD q undef = v) (hB : Blk w g cs T) (hu : P.underlying ty = some d) (hd' : d.isRow = true) (hi : (P.info? ty).map (·.size) = some cs.length)
    (h : R (.returned (.tuple #[.agg cs.toArray, v])) w) : bodyPost P fn R .ret a w := by
  refine ⟨hd, _, ?_, h⟩
  have hp' : a.tmps[p]?.getD undef = .pointer (some ⟨g, 0, none⟩) := by simpa using hp
  have hq' : a.tmps[q]?.getD undef = v := by simpa using hq
  have hl := run_loadVar_row (P := P) w g T ty cs.toArray (0, 0) d hB hu (by cases d <;> simp_all [TypeDesc.isRow]) (by simpa using hi)
  simp [results, hr, hp', hq', asAddr, hl]

/-- Zeros stored into a block of zeros, made behind another one. -/
theorem store_same (w : World) (R Z : List Value) (U T : TypeId) (hi : (Try.prog.info? T).map (·.size) = some Z.length) (h1 : ∀ v ∈ Z, v.oneCell' = true) :
    Sem.run Try.prog (storeCells ⟨w.heap.size + 1, 0, none⟩ Z) ((w.alloc (.cells R.toArray U)).alloc (.cells Z.toArray T)) = .ok () ((w.alloc (.cells R.toArray U)).alloc (.cells Z.toArray T)) := by
  have := run_storeCells_new (P := Try.prog) (w.alloc (.cells R.toArray U)) T Z.toArray Z.toArray (by simpa using hi) rfl (all_oneCell_toArray h1)
  simpa using this

def lossList (F G : Fld) : List Int := (List.range 100).map fun i => IntKind.i16.wrap (F.seed i - G.seed i)
theorem lossList_len (F G : Fld) : (lossList F G).length = 100 := by simp [lossList]
theorem lossList_nth (F G : Fld) {i : Nat} (h : i < 100) : nth (lossList F G) i = IntKind.i16.wrap (F.seed i - G.seed i) := by
  simp [nth, lossList, List.getD_eq_getElem?_getD, List.getElem?_map, List.getElem?_range h]

set_option maxHeartbeats 1000000 in
theorem lossOf_any (F G : Fld) (hF : F.Ok) (hG : G.Ok) (b c : Nat) (w : World) (hf : IsF w b F) (hg : IsF w c G) :
    Calls Try.prog 69 #[.pointer (some ⟨b, 0, none⟩), .pointer (some ⟨c, 0, none⟩)] w fun e w' => e = .returned (.agg (vrow .i16 (lossList F G)).toArray) ∧ Below w.heap.size w w' := by
  have HF := Lib.hid hf
  have HG := Lib.hid hg
  have HO := Lib.hid hF
  have HP := Lib.hid hG
  have hfl := hf.lt
  have hgl := hg.lt
  clear hf hg hF hG
  have hz : ∀ w, (zeroValue 25).run Try.prog w = .ok (.agg (zrow .i16 100).toArray) w := fun w => (zero_of_info (by kernel_rfl : (Try.prog.info? 25).map (fun i => (i.zero, i.size)) = some (some (.agg (zrow .i16 100).toArray), 100))).1 w
  have hst := store_same w (zrow .i16 100) (zrow .i16 100) 25 25 (by rw [zrow_len]; kernel_rfl) (by intro v hv; rw [List.eq_of_mem_replicate hv]; rfl)
  go_enter Try.func69, Try.ntmps69
  go_upto_region 2 with (fail)
  obtain ⟨W, hW⟩ : ∃ W, W = (w.alloc (.cells (zrow .i16 100).toArray 25)).alloc (.cells (zrow .i16 100).toArray 25) := ⟨_, rfl⟩
  have HR0 : Blk W w.heap.size (zrow .i16 100) 25 := by rw [hW]; exact (Blk.new' _ _ _).alloc _
  have HL0 : Blk W (w.heap.size + 1) (zrow .i16 100) 25 := by rw [hW]; exact Blk.newAt (by simp)
  have HB0 : Below w.heap.size w W := by rw [hW]; exact ((Below.refl _ _).alloc (Nat.le_refl _) _).alloc (by simp) _
  rw [← hW]
  have HR := Lib.hid HR0
  have HL := Lib.hid HL0
  have HB := Lib.hid HB0
  clear hW HR0 HL0 HB0
  go_wp2
  go_loopw [8] (fun v wr => ∃ i : Nat, i ≤ 100 ∧ v = .int .i64 i ∧ Blk wr w.heap.size (zrow .i16 100) 25 ∧ Blk wr (w.heap.size + 1) (half .i16 (lossList F G) 100 i) 25 ∧ Below w.heap.size w wr) (fun v _ => 100 - (intOf v).toNat)
  case atStart => exact ⟨0, by omega, rfl, HR.out, by rw [half_zero]; exact HL.out, HB.out⟩
  case round =>
    clear HR HL HB
    obtain ⟨i, hi, rfl, HR0, HL0, HB0⟩ := hrel
    have HR := Lib.hid HR0
    have HL := Lib.hid HL0
    have HB := Lib.hid HB0
    by_cases hlt : i < 100
    · have cf := (HF.out.below HB0 hfl).cs HO.out hlt
      have cg := (HG.out.below HB0 hgl).cs HP.out hlt
      have c2 := HL0.cell (List.getElem?_eq_getElem (show i < (half .i16 (lossList F G) 100 i).length by rw [half_len (lossList_len F G) hi]; exact hlt))
      have f2 := HL0.free i
      clear HR0 HL0 HB0
      go_wp2
      go_region
      all_goals
        go_wp2
        go_roundw
        case rel =>
          have hn := lossList_nth F G hlt
          refine ⟨i + 1, by omega, by go_num, ?_, ?_, ?_⟩
          · first | exact (HR.out.setOther (by omega) _ _) | exact (HR.out.setOther (by omega) _ _).drew | exact Blk.setOther (HR.out.drew) (by omega) _ _
          · rw [← half_set (lossList_len F G) hlt, hn]
            first | exact (HL.out.set _ _) | exact (HL.out.set _ _).drew | exact Blk.set (HL.out.drew) _ _
          · first | exact below_setCell HB.out (by omega) _ _ | exact (below_setCell HB.out (by omega) _ _).drew | exact below_setCell HB.out.drew (by omega) _ _
        case measure => simp [intOf]; omega
    · have e : i = 100 := by omega
      have HL' : Blk wr (w.heap.size + 1) (vrow .i16 (lossList F G)) 25 := by rw [← half_all (lossList_len F G)]; rw [e] at HL0; exact HL0
      have HW := Lib.hid HL'
      clear HR0 HL0 HB0 HL' e
      go_wp2_with (first
        | (with_reducible refine wpList_load_blk rfl 25 (.tmp 5) rfl _ 0 rfl (vrow .i16 (lossList F G)) _ HW.out (by rw [List.drop_zero, List.take_length]) Try.underlying25 rfl (by rw [vrow_len, lossList_len]; kernel_rfl) ?_)
        | (with_reducible refine wpList_store_all rfl 25 (.tmp 4) (.tmp 27) rfl _ (vrow .i16 (lossList F G)) rfl rfl HR.out (by rw [vrow_len, zrow_len, lossList_len]) (by rw [vrow_len, lossList_len]; kernel_rfl) (vrow_one _ _) ?_))
      exact post_blk (p := 4) (T := 25) rfl rfl rfl (HR.out.row _) Try.underlying25 rfl (by rw [vrow_len, lossList_len]; kernel_rfl) ⟨rfl, below_setRow HB.out (by omega) _⟩

set_option maxHeartbeats 1000000 in
theorem l06Loss_any (F G : Fld) (hF : F.Ok) (hG : G.Ok) (b c : Nat) (w : World) (hf : IsF w b F) (hg : IsF w c G) :
    Calls Try.prog 68 #[.pointer (some ⟨b, 0, none⟩), .pointer (some ⟨c, 0, none⟩)] w fun e w' => e = .returned (.agg (vrow .i16 (lossList F G)).toArray) ∧ Below w.heap.size w w' := by
  have HF := Lib.hid hf
  have HG := Lib.hid hg
  have HO := Lib.hid hF
  have HP := Lib.hid hG
  have hfl := hf.lt
  have hgl := hg.lt
  clear hf hg hF hG
  have hz : ∀ w, (zeroValue 25).run Try.prog w = .ok (.agg (zrow .i16 100).toArray) w := fun w => (zero_of_info (by kernel_rfl : (Try.prog.info? 25).map (fun i => (i.zero, i.size)) = some (some (.agg (zrow .i16 100).toArray), 100))).1 w
  have hst := store_same w (zrow .i16 100) (zrow .i16 100) 25 25 (by rw [zrow_len]; kernel_rfl) (by intro v hv; rw [List.eq_of_mem_replicate hv]; rfl)
  go_enter Try.func68, Try.ntmps68
  go_upto_region 2 with (fail)
  obtain ⟨W, hW⟩ : ∃ W, W = (w.alloc (.cells (zrow .i16 100).toArray 25)).alloc (.cells (zrow .i16 100).toArray 25) := ⟨_, rfl⟩
  have HR0 : Blk W w.heap.size (zrow .i16 100) 25 := by rw [hW]; exact (Blk.new' _ _ _).alloc _
  have HL0 : Blk W (w.heap.size + 1) (zrow .i16 100) 25 := by rw [hW]; exact Blk.newAt (by simp)
  have HB0 : Below w.heap.size w W := by rw [hW]; exact ((Below.refl _ _).alloc (Nat.le_refl _) _).alloc (by simp) _
  rw [← hW]
  have HR := Lib.hid HR0
  have HL := Lib.hid HL0
  have HB := Lib.hid HB0
  clear hW HR0 HL0 HB0
  go_wp2
  go_loopw [6] (fun v wr => ∃ i : Nat, i ≤ 100 ∧ v = .int .i64 i ∧ Blk wr w.heap.size (zrow .i16 100) 25 ∧ Blk wr (w.heap.size + 1) (half .i16 (lossList F G) 100 i) 25 ∧ Below w.heap.size w wr) (fun v _ => 100 - (intOf v).toNat)
  case atStart => exact ⟨0, by omega, rfl, HR.out, by rw [half_zero]; exact HL.out, HB.out⟩
  case round =>
    clear HR HL HB
    obtain ⟨i, hi, rfl, HR0, HL0, HB0⟩ := hrel
    have HR := Lib.hid HR0
    have HL := Lib.hid HL0
    have HB := Lib.hid HB0
    by_cases hlt : i < 100
    · have cf := (HF.out.below HB0 hfl).cs HO.out hlt
      have cg := (HG.out.below HB0 hgl).cs HP.out hlt
      have c2 := HL0.cell (List.getElem?_eq_getElem (show i < (half .i16 (lossList F G) 100 i).length by rw [half_len (lossList_len F G) hi]; exact hlt))
      have f2 := HL0.free i
      clear HR0 HL0 HB0
      go_wp2
      go_region
      all_goals
        go_wp2
        go_roundw
        case rel =>
          have hn := lossList_nth F G hlt
          refine ⟨i + 1, by omega, by go_num, ?_, ?_, ?_⟩
          · first | exact (HR.out.setOther (by omega) _ _) | exact (HR.out.setOther (by omega) _ _).drew | exact Blk.setOther (HR.out.drew) (by omega) _ _
          · rw [← half_set (lossList_len F G) hlt, hn]
            first | exact (HL.out.set _ _) | exact (HL.out.set _ _).drew | exact Blk.set (HL.out.drew) _ _
          · first | exact below_setCell HB.out (by omega) _ _ | exact (below_setCell HB.out (by omega) _ _).drew | exact below_setCell HB.out.drew (by omega) _ _
        case measure => simp [intOf]; omega
    · have e : i = 100 := by omega
      have HL' : Blk wr (w.heap.size + 1) (vrow .i16 (lossList F G)) 25 := by rw [← half_all (lossList_len F G)]; rw [e] at HL0; exact HL0
      have HW := Lib.hid HL'
      clear HR0 HL0 HB0 HL' e
      go_wp2_with (first
        | (with_reducible refine wpList_load_blk rfl 25 (.tmp 5) rfl _ 0 rfl (vrow .i16 (lossList F G)) _ HW.out (by rw [List.drop_zero, List.take_length]) Try.underlying25 rfl (by rw [vrow_len, lossList_len]; kernel_rfl) ?_)
        | (with_reducible refine wpList_store_all rfl 25 (.tmp 4) (.tmp 27) rfl _ (vrow .i16 (lossList F G)) rfl rfl HR.out (by rw [vrow_len, zrow_len, lossList_len]) (by rw [vrow_len, lossList_len]; kernel_rfl) (vrow_one _ _) ?_))
      exact post_blk (p := 4) (T := 25) rfl rfl rfl (HR.out.row _) Try.underlying25 rfl (by rw [vrow_len, lossList_len]; kernel_rfl) ⟨rfl, below_setRow HB.out (by omega) _⟩

end Go.Proofs.Ytlhiaofanejcoaa
