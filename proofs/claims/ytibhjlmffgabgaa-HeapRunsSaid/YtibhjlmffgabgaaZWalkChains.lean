import Derived.Test.YtibhjlmffgabgaaZChainPure
import Derived.Test.YtibhjlmffgabgaaZWalkFills
namespace Go.Proofs.Ytibhjlmffgabgaa.PAll
open Go.RowKit Go.Proofs.YtibhjlmffgabgaaW.PrintWords Go.Proofs.YtibhjlmffgabgaaW.PrintLast Go.Proofs.YtibhjlmffgabgaaW.PrintMore
open Go.Proofs.Ytibhjlmffgabgaa.MapInt
set_option linter.unusedVariables false
set_option linter.unusedSimpArgs false
section
variable {W w : World} {g : Nat}
end
structure CH (W w : World) (g : Nat) (rs : List Nat) : Prop where
  aw : AW W w g 20000 chS (chT 1 0 rs) 0
  le : ∀ r ∈ rs, r ≤ 49
theorem CH.sum {W w : World} {g : Nat} {rs : List Nat} (h : CH W w g rs) (hl : rs.length ≤ 100) : sumT chS (chT 1 0 rs) ≤ 5400 := by
  rw [ch_sum]; have := sumR_le rs h.le; omega
structure CT (W w : World) (g n : Nat) (ad : Addr) : Prop where
  aw : AW W w g 20000 chS (outL 1 0 n) 1
  rc : Kd.C (Kd.int .i64) w (some ad) 1 [1]
theorem CT.below {W w w2 : World} {g n : Nat} {ad : Addr} (h : CT W w g n ad) (hb : Below w.heap.size w w2) : CT W w2 g n ad := ⟨h.aw.below hb, Kd.C_below h.rc hb⟩
end Go.Proofs.Ytibhjlmffgabgaa.PAll
