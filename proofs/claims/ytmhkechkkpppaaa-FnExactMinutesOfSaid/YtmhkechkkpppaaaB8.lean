/- SeenAt, by the program and by the reference: the same. No condition but that the numbers are within their kinds. -/
import Derived.Test.YtmhkechkkpppaaaB2
import Derived.Test.YtmhkechkkpppaaaB1
import Derived.Test.YtmhkechkkpppaaaG3
import Derived.Test.YtmhkechkkpppaaaEC
namespace Go.Proofs.Ytmhkechkkpppaaa
open Go.RowKit Go.Proofs.YtmhkechkkpppaaaW.PrintWords Go.Proofs.YtmhkechkkpppaaaW.PrintLast Go.Proofs.YtmhkechkkpppaaaW.PrintMore Go.Proofs.Ytmhkechkkpppaaa.PAll
set_option linter.unusedSimpArgs false
set_option linter.unusedVariables false

def saB (b : List Int) (s m : Int) : Bool := inB s 0 50 && inB m 0 ((b.length : Int) - 1)
/-- The cells that are seen in a minute, and the code. -/
noncomputable def saRes (F : Fld) (b : List Int) (s m : Int) : List Int × Int := if codeB F b (saB b s m) = 0 then (ringSet F (rd b m).toNat s, 0) else (List.replicate 2 0, codeB F b (saB b s m))
theorem ringSet_len (F : Fld) (k : Nat) (s : Int) : (ringSet F k s).length = 2 := setTo_len _ _
theorem saRes_len (F : Fld) (b : List Int) (s m : Int) : (saRes F b s m).1.length = 2 := by
  unfold saRes
  split
  · exact ringSet_len _ _ _
  · simp
theorem sa_at {F : Fld} {b : List Int} {s m : Int} (h : codeB F b (saB b s m) = 0) : ∃ i k : Nat, m = (i : Int) ∧ i < b.length ∧ rd b m = (k : Int) ∧ k < 100 := by
  obtain ⟨hv, hq⟩ := codeB_zero h
  unfold saB at hq
  rw [Bool.and_eq_true] at hq
  have h2 := inB_iff.1 hq.2
  obtain ⟨_, _, hb⟩ := beat_cells hv
  have e : m = ((m.toNat : Nat) : Int) := by omega
  obtain ⟨k, h3, h4⟩ := hb m.toNat (by omega)
  rw [← e] at h3
  exact ⟨m.toNat, k, e, by omega, h3, h4⟩
theorem saClo_any (b : List Int) (s m : Int) (d1 d2 d3 : Nat) (A : Option Addr) (n : Nat) (w : World) (h1 : Blk w d1 [.int .i64 s] 2) (h2 : Blk w d2 [.int .i64 m] 2) (h3 : Blk w d3 [.slice A b.length n] 29) (hl : b.length ≤ 40) :
    Calls Try.prog 53 #[.pointer (some ⟨d1, 0, none⟩), .pointer (some ⟨d2, 0, none⟩), .pointer (some ⟨d3, 0, none⟩)] w fun e w' => e = .returned (.bool (saB b s m)) ∧ Below w.heap.size w w' := by
  have c1 := h1.cell (i := 0) rfl
  have c2 := h2.cell (i := 0) rfl
  have c3 := h3.cell (i := 0) rfl
  clear h1 h2 h3
  unfold saB
  cases hs : inB s 0 50
  · have HS := Lib.hid hs
    clear hs
    go_enter Try.func53, Try.ntmps53
    go_wp2_with (go_at_call 54; refine (isSight_any _ _).mono ?_; rintro e w' ⟨rfl, rfl⟩; rw [HS.out])
    go_ret
    exact ⟨rfl, Below.refl _ _⟩
  · have HS := Lib.hid hs
    clear hs
    go_enter Try.func53, Try.ntmps53
    go_wp2_with (first
      | (go_at_call 54; refine (isSight_any _ _).mono ?_; rintro e w' ⟨rfl, rfl⟩; rw [HS.out])
      | (go_at_call 55; refine (within_any _ _ _ _).mono ?_; rintro e w' ⟨rfl, rfl⟩))
    go_ret
    exact ⟨by rw [Bool.true_and]; rfl, Below.refl _ _⟩


set_option maxHeartbeats 2000000 in
theorem iSeenAt_any (F : Fld) (hF : F.Ok) (b : List Int) (hb : BtOk b) (s m : Int) (A : Option Addr) (n : Nat) (w : World) (hA : BtAt w A b) (hlc : b.length ≤ n) :
    Calls Try.prog 21 #[.agg F.vals.toArray, .slice A b.length n, .int .i64 s, .int .i64 m] w fun e w' => e = .returned (.tuple #[.agg (vrow .u64 (saRes F b s m).1).toArray, .int .i64 (saRes F b s m).2]) ∧ Below w.heap.size w w' := by
  have HO := Lib.hid hF
  have HBO := Lib.hid hb
  have HA := Lib.hid hA
  have HLC := Lib.hid hlc
  clear hF hb hA hlc
  have hz := zeroCells
  have hmf : ∀ (fn : Fn) (first cap : Array Value) (w : World), (Instr.makeFunc fn first cap).run Try.prog w = .ok (.func fn first cap) w := fun _ _ _ _ => rfl
  go_enter Try.func21, Try.ntmps21
  go_upto_region 1 with (fail)
  obtain ⟨W, hW⟩ : ∃ W, W = ((((w.alloc (.cells F.vals.toArray 32)).alloc (.cells [Value.slice A b.length n].toArray 29)).alloc (.cells [Value.int .i64 s].toArray 2)).alloc (.cells [Value.int .i64 m].toArray 2)).alloc (.cells (zrow .u64 2).toArray 40) := ⟨_, rfl⟩
  have HC := Lib.hid (boxed5 w F.vals [.slice A b.length n] [.int .i64 s] [.int .i64 m] (zrow .u64 2) 32 29 2 2 40)
  rw [← hW] at HC ⊢
  clear hW
  have k1 : W.cell? ⟨w.heap.size + 1, 0, none⟩ = some (.slice A b.length n) := (HC.out.blk (w.heap.size + 1, [.slice A b.length n], 29) (by simp)).cell rfl
  by_cases hq : codeB F b (saB b s m) = 0
  · have HQ := Lib.hid hq
    obtain ⟨i, k, rfl, hi, hk, hk2⟩ := sa_at hq
    have HR : Hid (saRes F b s (i : Int) = (ringSet F k s, 0)) := Lib.hid (by unfold saRes; rw [if_pos hq, hk, Int.toNat_natCast])
    have HL := Lib.hid (ringSet_len F k s)
    have hb40 : b.length ≤ 40 := (beat_cells (codeB_zero hq).1).2.1
    clear hq
    obtain ⟨ad, hA2, hx⟩ := Kd.at_int HA.out (i : Int) (by omega) (by omega)
    subst hA2
    rw [Int.toNat_natCast, hk] at hx
    go_upto_region 4 with (first
      | (go_at_call 52; refine (beatCode_any F HO.out b HBO.out _ (some ad) n 53 _ (saB b s (i : Int)) _ (HC.out.blk (w.heap.size, F.vals, 32) (by simp)) (Kd.C_below HA.out HC.out.below) (enters_of Try.func53 (by kernel_rfl) rfl) (fun hv w1 hb => saClo_any b s (i : Int) _ _ _ (some ad) n w1 ((HC.out.step hb).blk (w.heap.size + 1 + 1, [.int .i64 s], 2) (by simp)) ((HC.out.step hb).blk (w.heap.size + 1 + 1 + 1, [.int .i64 (i : Int)], 2) (by simp)) ((HC.out.step hb).blk (w.heap.size + 1, [.slice (some ad) b.length n], 29) (by simp)) (beat_cells hv).2.1)).mono ?_; rintro e w2 ⟨rfl, hb⟩; rw [HQ.out]; have HC1 := Lib.hid (HC.out.step hb); clear hb; clear k1))
    refine wp_region_K 7 9 #[false, false, false, false, false, false, false, false, false] (by kernel_rfl) (by kernel_rfl) (fun _ _ _ _ hd h => ⟨hd.symm.trans h.1, h.2⟩) (fun hPB => ?_)
    have HD := Lib.hid HC1.out.drew
    have HX := Lib.hid (fun (w' : World) (h : WUp w2.drew w') => (HD.out.step h))
    have HXI := Lib.hid (show ∀ w', WUp w2.drew w' → w'.cell? (ad.add i) = some (.int .i16 (k : Int)) from fun w' h => by
      obtain ⟨ad', e1, e2⟩ := Kd.at_int (Kd.C_below HA.out ((HD.out.step h).below)) (i : Int) (by omega) (by omega)
      cases e1
      rw [Int.toNat_natCast, hk] at e2
      exact e2)
    have ek : IntKind.i64.wrap (k : Int) = (k : Int) := by rw [IntKind.wrap_i64]; omega
    refine wpK_take (i := 0) #[true, false, false, false, false, false, false, false, false] rfl (by kernel_rfl) hPB (y_loadc (v := .slice (some ad) b.length n) rfl 29 (.tmp 5) rfl ⟨w.heap.size + 1, 0, none⟩ (by kernel_rfl) (fun w' h => run_loadc_slice 29 Try.underlying29 (((HX.out w' h).blk (w.heap.size + 1, [.slice (some ad) b.length n], 29) (by simp)).cell rfl))) ?_
    simp only [Act.put, List.setIfInBounds_toArray, List.set_cons_zero, List.set_cons_succ]
    refine wpK_take (i := 1) #[true, true, false, false, false, false, false, false, false] rfl (by kernel_rfl) hPB (y_loadc (v := .int .i64 (i : Int)) rfl 2 (.tmp 7) rfl ⟨w.heap.size + 1 + 1 + 1, 0, none⟩ (by kernel_rfl) (fun w' h => run_loadc_int 2 Try.underlying2 (((HX.out w' h).blk (w.heap.size + 1 + 1 + 1, [.int .i64 (i : Int)], 2) (by simp)).cell rfl))) ?_
    simp only [Act.put, List.setIfInBounds_toArray, List.set_cons_zero, List.set_cons_succ]
    refine wpK_auto (i := 2) #[true, true, true, false, false, false, false, false, false] rfl (by kernel_rfl) hPB (fun K hK => ?_)
    go_simp
    refine hK _ ?_
    clear hK K
    refine wpK_take (i := 3) #[true, true, true, true, false, false, false, false, false] rfl (by kernel_rfl) hPB (y_loadc (v := .int .i16 (k : Int)) rfl 24 (.tmp 20) rfl (ad.add i) (by kernel_rfl) (fun w' h => run_loadc_int 24 Try.underlying24 (HXI.out w' h))) ?_
    simp only [Act.put, List.setIfInBounds_toArray, List.set_cons_zero, List.set_cons_succ]
    refine wpK_auto (i := 4) #[true, true, true, true, true, false, false, false, false] rfl (by kernel_rfl) hPB (fun K hK => ?_)
    go_simp
    refine hK _ ?_
    clear hK K
    refine wpK_take (i := 5) #[true, true, true, true, true, true, false, false, false] rfl (by kernel_rfl) hPB (y_loadc (v := .int .i64 s) rfl 2 (.tmp 6) rfl ⟨w.heap.size + 1 + 1, 0, none⟩ (by kernel_rfl) (fun w' h => run_loadc_int 2 Try.underlying2 (((HX.out w' h).blk (w.heap.size + 1 + 1, [.int .i64 s], 2) (by simp)).cell rfl))) ?_
    simp only [Act.put, List.setIfInBounds_toArray, List.set_cons_zero, List.set_cons_succ]
    refine wpK_take (i := 6) #[true, true, true, true, true, true, true, false, false] rfl (by kernel_rfl) hPB (y_call (v := .agg (vrow .u64 (ringSet F k s)).toArray) rfl Try.func56 (by kernel_rfl) rfl #[.pointer (some ⟨w.heap.size, 0, none⟩), .int .i64 (k : Int), .int .i64 s] rfl (by simp only [List.map_toArray, List.map_cons, List.map_nil]; kernel_rfl) (fun w' h => ring_any F HO.out k hk2 s _ w' ((HX.out w' h).blk (w.heap.size, F.vals, 32) (by simp)))) ?_
    simp only [Act.put, List.setIfInBounds_toArray, List.set_cons_zero, List.set_cons_succ]
    refine wpK_only (i := 7) #[true, true, true, true, true, true, true, true, false] (by kernel_rfl) (fun w3 hu => ?_)
    have HX3 := Lib.hid (HX.out w3 hu)
    refine k_store_all rfl rfl 40 (.tmp 8) (.tmp 24) rfl (w.heap.size + 1 + 1 + 1 + 1) (vrow .u64 (ringSet F k s)) (by kernel_rfl) (by kernel_rfl) (HX3.out.blk (w.heap.size + 1 + 1 + 1 + 1, zrow .u64 2, 40) (by simp)) (by rw [vrow_len, zrow_len, HL.out]) (by rw [vrow_len, HL.out]; kernel_rfl) (vrow_one _ _) ⟨fun h => absurd h (by decide), ?_⟩
    simp only [Act.put]
    have hz1 := (HX3.out.blk (w.heap.size + 1 + 1 + 1 + 1, zrow .u64 2, 40) (by simp)).row (vrow .u64 (ringSet F k s))
    have hb1 := below_setRow HX3.out.below (show w.heap.size ≤ w.heap.size + 1 + 1 + 1 + 1 by omega) (vrow .u64 (ringSet F k s)).toArray
    refine wpK_only (i := 8) #[true, true, true, true, true, true, true, true, true] (by kernel_rfl) (fun w4 hu4 => ?_)
    refine k_assign rfl rfl (.const (.int .i64 0)) rfl (.int .i64 0) (by kernel_rfl) ⟨fun h => absurd h (by decide), ?_⟩
    simp only [Act.put, List.setIfInBounds_toArray, List.set_cons_zero, List.set_cons_succ]
    refine wpK_done (by kernel_rfl) (fun w5 hu5 => ?_)
    have HP1 := Lib.hid ((hz1.below hu4 hz1.lt).below hu5 (hz1.below hu4 hz1.lt).lt)
    have HPB := Lib.hid ((hb1.trans (hu4.mono hb1.size)).trans (hu5.mono (hb1.trans (hu4.mono hb1.size)).size))
    clear hz1 hb1 hu4 hu5 hu hPB
    go_wp2
    rw [HR.out]
    exact post_blk2 (p := 8) (q := 9) (T := 40) rfl rfl rfl rfl HP1.out Try.underlying40 rfl (by rw [vrow_len, HL.out]; kernel_rfl) ⟨rfl, HPB.out⟩
  · have HR : Hid (saRes F b s m = (List.replicate 2 0, codeB F b (saB b s m))) := Lib.hid (by unfold saRes; rw [if_neg hq])
    have hq' : (codeB F b (saB b s m) != 0) = true := by simpa using hq
    go_wp2_with (first
      | (go_at_call 52; refine (beatCode_any F HO.out b HBO.out _ A n 53 _ (saB b s m) _ (HC.out.blk (w.heap.size, F.vals, 32) (by simp)) (Kd.C_below HA.out HC.out.below) (enters_of Try.func53 (by kernel_rfl) rfl) (fun hv w1 hb => saClo_any b s m _ _ _ A n w1 ((HC.out.step hb).blk (w.heap.size + 1 + 1, [.int .i64 s], 2) (by simp)) ((HC.out.step hb).blk (w.heap.size + 1 + 1 + 1, [.int .i64 m], 2) (by simp)) ((HC.out.step hb).blk (w.heap.size + 1, [.slice A b.length n], 29) (by simp)) (beat_cells hv).2.1)).mono ?_; rintro e w2 ⟨rfl, hb⟩; have HC1 := Lib.hid (HC.out.step hb); clear hb; have hst := run_storeCells_blk (P := Try.prog) (HC1.out.blk (w.heap.size + 1 + 1 + 1 + 1, zrow .u64 2, 40) (by simp)) (vs := zrow .u64 2) rfl (zrow_one _ _)))
    rw [HR.out]
    exact post_blk2 (p := 8) (q := 9) (T := 40) rfl rfl rfl rfl (by rw [vrow_zero]; exact (HC1.out.blk (w.heap.size + 1 + 1 + 1 + 1, zrow .u64 2, 40) (by simp)).row _) Try.underlying40 rfl (by rw [vrow_len, List.length_replicate]; kernel_rfl) ⟨rfl, below_setRow HC1.out.below (by omega) _⟩


set_option maxHeartbeats 2000000 in
theorem sSeenAt_any (F : Fld) (hF : F.Ok) (b : List Int) (hb : BtOk b) (s m : Int) (A : Option Addr) (n : Nat) (w : World) (hA : BtAt w A b) (hlc : b.length ≤ n) :
    Calls Try.prog 20 #[.agg F.vals.toArray, .slice A b.length n, .int .i64 s, .int .i64 m] w fun e w' => e = .returned (.tuple #[.agg (vrow .u64 (saRes F b s m).1).toArray, .int .i64 (saRes F b s m).2]) ∧ Below w.heap.size w w' := by
  have HO := Lib.hid hF
  have HBO := Lib.hid hb
  have HA := Lib.hid hA
  have HLC := Lib.hid hlc
  have hbl := hA.2.1
  clear hF hb hA hlc
  have hz := zeroCells
  go_enter Try.func20, Try.ntmps20
  go_upto_region 1 with (fail)
  obtain ⟨W, hW⟩ : ∃ W, W = (w.alloc (.cells F.vals.toArray 32)).alloc (.cells (zrow .u64 2).toArray 40) := ⟨_, rfl⟩
  have HC := Lib.hid (boxed2 w F.vals (zrow .u64 2) 32 40)
  rw [← hW] at HC ⊢
  clear hW
  by_cases hq : codeB F b (saB b s m) = 0
  · have HQ := Lib.hid hq
    obtain ⟨i, k, rfl, hi, hk, hk2⟩ := sa_at hq
    have HWB : Hid ((inB s 0 50 && inB (i : Int) 0 ((b.length : Int) - 1)) = saB b s (i : Int)) := Lib.hid rfl
    have HR : Hid (saRes F b s (i : Int) = (ringSet F k s, 0)) := Lib.hid (by unfold saRes; rw [if_pos hq, hk, Int.toNat_natCast])
    have HL := Lib.hid (ringSet_len F k s)
    have hb40 : b.length ≤ 40 := (beat_cells (codeB_zero hq).1).2.1
    clear hq
    obtain ⟨ad, hA2, hx⟩ := Kd.at_int HA.out (i : Int) (by omega) (by omega)
    subst hA2
    rw [Int.toNat_natCast, hk] at hx
    have HXI := Lib.hid (show ∀ w', Below w.heap.size w w' → w'.cell? (ad.add i) = some (.int .i16 (k : Int)) from fun w' h => by
      obtain ⟨ad', e1, e2⟩ := Kd.at_int (Kd.C_below HA.out h) (i : Int) (by omega) (by omega)
      cases e1
      rw [Int.toNat_natCast, hk] at e2
      exact e2)
    have ek : IntKind.i64.wrap (k : Int) = (k : Int) := by rw [IntKind.wrap_i64]; omega
    go_wp2_with (first
      | (go_at_call 50; refine (in_any _ _ _ _).mono ?_; rintro e w' ⟨rfl, rfl⟩)
      | (go_at_call 49; refine (l05Asked_any F HO.out b HBO.out _ (some ad) n s (inB (i : Int) 0 ((b.length : Int) - 1)) _ (HC.out.blk (w.heap.size, F.vals, 32) (by simp)) (Kd.C_below HA.out HC.out.below)).mono ?_; rintro e w2 ⟨rfl, m1, hw⟩; rw [HWB.out, HQ.out]; have HC1 := Lib.hid (HC.out.step (show Below W.heap.size W w2 by rw [hw]; exact below_drewN (Below.refl _ _) _)); clear hw; have hx1 := HXI.out w2 HC1.out.below)
      | (go_at_call 51; refine (sRing_any F HO.out k hk2 s _ _ (HC1.out.blk (w.heap.size, F.vals, 32) (by simp))).mono ?_; rintro e w3 ⟨rfl, hb⟩; have HC2 := Lib.hid (HC1.out.step hb); clear hb)
      | (with_reducible refine wpList_store_all rfl 40 (.tmp 8) (.tmp 29) rfl _ (vrow .u64 (ringSet F k s)) rfl rfl (HC2.out.blk (w.heap.size + 1, zrow .u64 2, 40) (by simp)) (by rw [vrow_len, zrow_len, HL.out]) (by rw [vrow_len, HL.out]; kernel_rfl) (vrow_one _ _) ?_))
    rw [HR.out]
    exact post_blk2 (p := 8) (q := 9) (T := 40) rfl rfl rfl rfl ((HC2.out.blk (w.heap.size + 1, zrow .u64 2, 40) (by simp)).row _) Try.underlying40 rfl (by rw [vrow_len, HL.out]; kernel_rfl) ⟨rfl, below_setRow HC2.out.below (by omega) _⟩
  · have HR : Hid (saRes F b s m = (List.replicate 2 0, codeB F b (saB b s m))) := Lib.hid (by unfold saRes; rw [if_neg hq])
    have HWB : Hid ((inB s 0 50 && inB m 0 ((b.length : Int) - 1)) = saB b s m) := Lib.hid rfl
    have hq' : (codeB F b (saB b s m) != 0) = true := by simpa using hq
    go_wp2_with (first
      | (go_at_call 50; refine (in_any _ _ _ _).mono ?_; rintro e w' ⟨rfl, rfl⟩)
      | (go_at_call 49; refine (l05Asked_any F HO.out b HBO.out _ A n s (inB m 0 ((b.length : Int) - 1)) _ (HC.out.blk (w.heap.size, F.vals, 32) (by simp)) (Kd.C_below HA.out HC.out.below)).mono ?_; rintro e w2 ⟨rfl, m1, hw⟩; rw [HWB.out]; have HC1 := Lib.hid (HC.out.step (show Below W.heap.size W w2 by rw [hw]; exact below_drewN (Below.refl _ _) _)); clear hw; have hst := run_storeCells_blk (P := Try.prog) (HC1.out.blk (w.heap.size + 1, zrow .u64 2, 40) (by simp)) (vs := zrow .u64 2) rfl (zrow_one _ _)))
    rw [HR.out]
    exact post_blk2 (p := 8) (q := 9) (T := 40) rfl rfl rfl rfl (by rw [vrow_zero]; exact (HC1.out.blk (w.heap.size + 1, zrow .u64 2, 40) (by simp)).row _) Try.underlying40 rfl (by rw [vrow_len, List.length_replicate]; kernel_rfl) ⟨rfl, below_setRow HC1.out.below (by omega) _⟩
end Go.Proofs.Ytmhkechkkpppaaa
