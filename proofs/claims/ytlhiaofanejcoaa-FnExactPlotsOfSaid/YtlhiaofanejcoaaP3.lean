/- The cells of a field for which a closure answers yes, as a set: the walk. No condition but that the numbers are within their kinds, and what the closure answers. -/
import Derived.Test.YtlhiaofanejcoaaP2
import Derived.Shelf.Abstract
namespace Go.Proofs.Ytlhiaofanejcoaa
open Go.RowKit Go.Proofs.YtlhiaofanejcoaaW.PrintWords Go.Proofs.YtlhiaofanejcoaaW.PrintLast Go.Proofs.YtlhiaofanejcoaaW.PrintMore
set_option linter.unusedSimpArgs false
set_option linter.unusedVariables false

theorem addr_block (a : Addr) (n : Nat) : (a.add n).block = a.block := by unfold Addr.add; split <;> rfl
theorem app0 (a : Value) : #[a] ++ (#[] : Array Value) = #[a] := by simp
theorem app1 (a b : Value) : #[a] ++ #[b] = #[a, b] := by simp
theorem app2 (a b c : Value) : #[a] ++ #[b, c] = #[a, b, c] := by simp
theorem app3 (a b c d : Value) : #[a] ++ #[b, c, d] = #[a, b, c, d] := by simp
theorem app4 (a b c d e : Value) : #[a] ++ #[b, c, d, e] = #[a, b, c, d, e] := by simp
theorem zeroCells (w : World) : (zeroValue 49).run Try.prog w = .ok (.agg (zrow .u64 2).toArray) w := (zero_of_info (by kernel_rfl : (Try.prog.info? 49).map (fun i => (i.zero, i.size)) = some (some (.agg (zrow .u64 2).toArray), 2))).1 w
theorem made_block {w w' : World} {xs : List Int} {v : Value} {ad : Addr} {n c : Nat} (h : Made w w' xs v) (hv : v = .slice (some ad) n c) : ad.block < w'.heap.size := by
  obtain ⟨inner, ho⟩ := Kd.R_own h
  exact own_lt ho ad.block (by rw [hv]; rfl)

set_option maxHeartbeats 4000000 in
theorem those_any (F : Fld) (hF : F.Ok) (p : Nat → Bool) (b : Nat) (f : FuncId) (caps : Array Value) (w : World) (hf : IsF w b F)
    (eg : ∀ args w, (callFunc f args).run Try.prog w = .ok (.enter f args) w)
    (hc : ∀ (i : Nat) w1, i < 100 → Below w.heap.size w w1 → Calls Try.prog f (#[.int .i64 i] ++ caps) w1 fun e w' => e = .returned (.bool (p i)) ∧ Below w1.heap.size w1 w') :
    Calls Try.prog 71 #[.pointer (some ⟨b, 0, none⟩), .func (.func f) #[] caps] w fun e w' => e = .returned (.agg (vrow .u64 (setTo (fun j => F.has (j : Int) && p j) 100)).toArray) ∧ Below w.heap.size w w' := by
  have HF := Lib.hid hf
  have HO := Lib.hid hF
  have HC := Lib.hid hc
  have hfl := hf.lt
  clear hf hF hc
  have hz := zeroCells
  have hst := store_same w (zrow .u64 2) (zrow .u64 2) 49 49 (by rw [zrow_len]; kernel_rfl) (by intro v hv; rw [List.eq_of_mem_replicate hv]; rfl)
  go_enter Try.func71, Try.ntmps71
  go_upto_region 2 with (fail)
  obtain ⟨W, hW⟩ : ∃ W, W = (w.alloc (.cells (zrow .u64 2).toArray 49)).alloc (.cells (zrow .u64 2).toArray 49) := ⟨_, rfl⟩
  have HC0 : Cls w [(w.heap.size, zrow .u64 2, 49), (w.heap.size + 1, zrow .u64 2, 49)] W := by rw [hW]; exact boxed2 w _ _ _ _
  have HF1 : Hid (IsF W b F) := Lib.hid (HF.out.below HC0.below hfl)
  have HC1 := Lib.hid HC0
  rw [← hW]
  clear hW HC0 hst
  go_wp2_with (first
    | (go_at_call 73; refine (cells_any F HO.out _ _ HF1.out).mono ?_; rintro e w4 ⟨v, rfl, hm, hb⟩; have HC4 := Lib.hid (HC1.out.step hb); clear hb; obtain ⟨A, c, rfl, hm2⟩ := made_cells hm; have HM := Lib.hid hm2; clear hm hm2))
  have HG := Lib.hid (HC1.out.lt (w.heap.size + 1, zrow .u64 2, 49) (by simp))
  have HG4 := Lib.hid (HC4.out.lt (w.heap.size + 1, zrow .u64 2, 49) (by simp))
  go_loopw [7, 12] (fun u v wr => ∃ i : Nat, i ≤ (F.cellsTo 100).length ∧ v = .int .i64 i ∧ Hid (Kept (w.heap.size + 1) w4 wr) ∧ Hid (Blk wr (w.heap.size + 1) (vrow .u64 (setIn p (F.cellsTo 100) i)) 49)) (fun _ v _ => 100 - (intOf v).toNat)
  case atStart => exact ⟨0, by omega, rfl, Lib.hid (Kept.refl _ _), Lib.hid (HC4.out.blk (w.heap.size + 1, zrow .u64 2, 49) (by simp))⟩
  case round =>
    obtain ⟨i, hi, rfl, HK, HB⟩ := hrel
    have hmx := F.cellsTo_len 100
    have HBW : Hid (Below w.heap.size w wr) := Lib.hid (HK.out.below HC4.out.below (by omega) HC4.out.below.size)
    by_cases hlt : i < (F.cellsTo 100).length
    · obtain ⟨k, hk, hk2⟩ := cellsTo_in F 100 i hlt
      obtain ⟨ad, hA, ha1, ha2, hx⟩ := HM.out i hlt
      subst hA
      rw [hk] at hx
      replace hx := HK.out.cell hx (by rw [addr_block]; exact ha2) (by rw [addr_block]; have := HG.out; simp at this; omega)
      clear ha1 ha2
      have HCk := Lib.hid (HC.out k wr hk2 HBW.out)
      cases hp : p k
      · have HP := Lib.hid hp
        have HN : Hid (setIn p (F.cellsTo 100) (i + 1) = setIn p (F.cellsTo 100) i) := Lib.hid (by simp only [setIn]; rw [hk, Int.toNat_natCast, hp]; rfl)
        clear hk hp
        go_wp2_with (first
          | (go_at_fn f; refine HCk.out.mono ?_; rintro e w5 ⟨rfl, hb⟩; rw [HP.out]; have HK5 := Lib.hid (HK.out.step hb); have HB5 := Lib.hid (HB.out.below hb HB.out.lt); clear hb))
        go_roundw
        case rel => exact ⟨i + 1, by omega, by go_num, HK5, by rw [HN.out]; exact HB5⟩
        case measure => simp only [intOf]; omega
      · have HP := Lib.hid hp
        have HN : Hid (setIn p (F.cellsTo 100) (i + 1) = putN (setIn p (F.cellsTo 100) i) k) := Lib.hid (by simp only [setIn]; rw [hk, Int.toNat_natCast, hp]; rfl)
        clear hk hp
        go_wp2_with (first
          | (go_at_fn f; refine HCk.out.mono ?_; rintro e w5 ⟨rfl, hb⟩; rw [HP.out]; have HK5 := Lib.hid (HK.out.step hb); have HB5 := Lib.hid (HB.out.below hb HB.out.lt); clear hb)
          | (go_at_call 93; refine (put_any _ (setIn_len p _ i) _ k hk2 _ HB5.out).mono ?_; rintro e w6 ⟨rfl, n, hw6⟩; have HK6 : Hid (Kept (w.heap.size + 1) w4 w6) := Lib.hid (by rw [hw6]; exact (HK5.out.set _ _).drewN _); have HB6 : Hid (Blk w6 (w.heap.size + 1) (vrow .u64 (setIn p (F.cellsTo 100) (i + 1))) 49) := Lib.hid (by rw [HN.out, ← putN_row, hw6]; exact (HB5.out.set _ _).drewN _); clear hw6))
        go_roundw
        case rel => exact ⟨i + 1, by omega, by go_num, HK6, HB6⟩
        case measure => simp only [intOf]; omega
    · obtain rfl : i = (F.cellsTo 100).length := by omega
      have HS := Lib.hid (set_same p F 100)
      rw [HS.out] at HB
      have HL := Lib.hid (setTo_len (fun j => F.has (j : Int) && p j) 100)
      have HR : Hid (Blk wr w.heap.size (zrow .u64 2) 49) := Lib.hid (HK.out.blk (HC4.out.blk (w.heap.size, zrow .u64 2, 49) (by simp)) (by omega))
      go_wp2_with (first
        | (with_reducible refine wpList_load_blk rfl 49 (.tmp 5) rfl _ 0 rfl (vrow .u64 (setTo (fun j => F.has (j : Int) && p j) 100)) _ HB.out (by rw [List.drop_zero, List.take_length]) Try.underlying49 rfl (by rw [vrow_len, HL.out]; kernel_rfl) ?_)
        | (with_reducible refine wpList_store_all rfl 49 (.tmp 4) (.tmp 22) rfl _ (vrow .u64 (setTo (fun j => F.has (j : Int) && p j) 100)) rfl rfl HR.out (by rw [vrow_len, zrow_len, HL.out]) (by rw [vrow_len, HL.out]; kernel_rfl) (vrow_one _ _) ?_))
      exact post_blk (p := 4) (T := 49) rfl rfl rfl (HR.out.row _) Try.underlying49 rfl (by rw [vrow_len, HL.out]; kernel_rfl) ⟨rfl, below_setRow HBW.out (by omega) _⟩

end Go.Proofs.Ytlhiaofanejcoaa
