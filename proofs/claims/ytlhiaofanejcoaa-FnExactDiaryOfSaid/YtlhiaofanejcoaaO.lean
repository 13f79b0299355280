/- Words of this claim's own: slices of the call's own, apart from each other. No condition. -/
import Derived.Test.YtlhiaofanejcoaaJ
import Derived.Test.YtlhiaofanejcoaaWWords
import Derived.Test.YtlhiaofanejcoaaWKept
import Derived.Test.YtlhiaofanejcoaaWApart
namespace Go.Proofs.Ytlhiaofanejcoaa
open Go.RowKit Go.Proofs.YtlhiaofanejcoaaW.PrintWords
set_option linter.unusedSimpArgs false
set_option linter.unusedVariables false

section
variable {α β : Type} {d : Kd α} {d' : Kd β} {e e' b : Nat} {ok ok' : Nat → Prop} {w0 w w' : World} {v u : Value} {xs : List α} {ys : List β}
/-- A slice of the call's own, made since w0. -/
abbrev Ow (d : Kd α) (e : Nat) (w0 w : World) (v : Value) (xs : List α) : Prop := Kd.R d e w w0.heap.size (fun k => some k = v.ownBlock) v xs
/-- What is written through v leaves u alone. -/
def Apart (v u : Value) : Prop := ∀ k, some k = u.ownBlock → ¬ some k = v.ownBlock
theorem ow_new (hE : d.E = []) (h : Kd.R d e w' w.heap.size ok v xs) (hb : Below w0.heap.size w0 w) : Ow d e w0 w' v xs := Kd.R_lower (Kd.R_tight hE h) hb.size
theorem ow_below (h : Ow d e w0 w v xs) (hb : Below w.heap.size w w') : Ow d e w0 w' v xs := Kd.R_below h hb
theorem apart_new (h : Kd.R d e w' w.heap.size ok v xs) (hu : Kd.R d' e' w b ok' u ys) : Apart v u ∧ Apart u v :=
  ⟨fun k hk hv => by have h1 := Kd.R_base h k hv.symm; have h2 := Kd.R_lt hu k hk.symm; omega,
   fun k hv hk => by have h1 := Kd.R_base h k hv.symm; have h2 := Kd.R_lt hu k hk.symm; omega⟩
theorem ow_kept (h : Ow d e w0 w u xs) (hap : Apart v u) (hk : Go.Proofs.YtlhiaofanejcoaaW.PrintWords.Kept w w' (fun k => some k = v.ownBlock)) : Ow d e w0 w' u xs := Kd.R_kept h hk hap
theorem ow_tight (hE : d.E = []) (h : Kd.R d e w w0.heap.size ok v xs) : Ow d e w0 w v xs := Kd.R_tight hE h
theorem ow_C {A : Option Addr} {n c : Nat} (h : Ow d e w0 w (.slice A n c) xs) : Kd.C d w A xs.length xs := (Kd.R_reads' h).2.2
theorem ow_cap {A : Option Addr} {c : Nat} (h : Ow d e w0 w (.slice A xs.length c) xs) : xs.length ≤ c := (Kd.R_reads' h).2.1
end
end Go.Proofs.Ytlhiaofanejcoaa
