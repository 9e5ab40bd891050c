import Derived.Test.YtibhjlmffgabgaaZMapBool
namespace Go.Proofs.Ytibhjlmffgabgaa.MapInt
set_option linter.unusedVariables false
set_option linter.unusedSimpArgs false
open Go.RowKit Go.ChangeMaps Go.MapKept Go.WideShapes
open Go.WideElems (Fit rd rg pl rd_key rd_val rg_of other_key)
open Go.Maps (Keyed)
def RGB (P : Program) (w : World) (b r n : Nat) (S : Int → Bool) (left : Int → Bool) (cnt : Nat) : Prop :=
  ∃ (D : DataW Unit) (lf : Lit → Bool), w.ranges P 3 (plainElem P 4) b r n D lf cnt ∧ TellsB D S ∧ ∀ k, inR k → lf (.int .i64 k) = left k
section
variable {P : Program} {w w' : World} {b r n cnt : Nat} {S : Int → Bool} {left : Int → Bool}
theorem RGB.ne (h : RGB P w b r n S left cnt) : r ≠ b := let ⟨_, _, h, _⟩ := h; h.ne
theorem RGB.lt (h : RGB P w b r n S left cnt) : r < w.heap.size := let ⟨_, _, h, _⟩ := h; h.lt
theorem RGB.kept {row : Option Nat} (h : RGB P w b r n S left cnt) (hg : w.grownBy w' row) (hb' : some b ≠ row) (hr' : some r ≠ row) : RGB P w' b r n S left cnt :=
  let ⟨D, lf, h, t, e⟩ := h; ⟨D, lf, h.kept hg hb' hr', t, e⟩
theorem RGB.below (h : RGB P w b r n S left cnt) (hb : Below w.heap.size w w') : RGB P w' b r n S left cnt :=
  h.kept (row := none) ⟨hb.os, hb.tape, hb.output, hb.size, fun k hk _ => hb.block k hk⟩ (by simp) (by simp)
variable (h3 : P.underlying 3 = some (.int .i64)) (h4 : P.underlying 4 = some .bool)
variable {ops : Array Oper} {rest : List Oper} {o : Oper} {a : Act} {Q : Exit → Act → World → Prop}
include h3
end
end Go.Proofs.Ytibhjlmffgabgaa.MapInt
