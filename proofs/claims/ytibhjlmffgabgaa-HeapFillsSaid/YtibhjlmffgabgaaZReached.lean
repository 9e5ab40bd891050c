import Derived.Test.YtibhjlmffgabgaaZClear
import Derived.Test.YtibhjlmffgabgaaZRangeBool
namespace Go.Proofs.Ytibhjlmffgabgaa.PAll
open Go.RowKit Go.Proofs.YtibhjlmffgabgaaW.PrintWords Go.Proofs.YtibhjlmffgabgaaW.PrintLast Go.Proofs.YtibhjlmffgabgaaW.PrintMore
open Go.Proofs.Ytibhjlmffgabgaa.MapInt
set_option linter.unusedVariables false
set_option linter.unusedSimpArgs false
theorem keep_nil (shs : List S65) {L : Int → Bool} : ∀ (T : List Thg) (b : Nat), (∀ y : Int, (b : Int) ≤ y → y < b + sumT shs T → L y = false) → keepT shs L T b = []
  | [], b, h => rfl
  | u :: T, b, h => by
    have hp := tsz_pos shs u
    have hs := sum_cons shs u T
    unfold keepT
    rw [if_neg (by rw [h b (Int.le_refl _) (by omega)]; decide)]
    exact keep_nil shs T _ (fun y h1 h2 => h y (by omega) (by omega))
structure RCH (W w : World) (bm r n : Nat) (S left : Int → Bool) (cnt : Nat) : Prop where
  bel : Below W.heap.size W w
  rg : RGB Try.prog w bm r n S left cnt
  hb : W.heap.size ≤ bm
  hr : W.heap.size ≤ r
theorem RCH.below {W w w2 : World} {bm r n cnt : Nat} {S left : Int → Bool} (h : RCH W w bm r n S left cnt) (hb : Below w.heap.size w w2) : RCH W w2 bm r n S left cnt := ⟨below_step h.bel hb, h.rg.below hb, h.hb, h.hr⟩
theorem RCH.next {W w w2 : World} {bm r n cnt cnt2 : Nat} {S left left2 : Int → Bool} (h : RCH W w bm r n S left cnt) (hg : w.grownBy w2 (some r)) (hrg : RGB Try.prog w2 bm r n S left2 cnt2) : RCH W w2 bm r n S left2 cnt2 :=
  ⟨⟨hg.os.trans h.bel.os, hg.tape.trans h.bel.tape, hg.output.trans h.bel.output, Nat.le_trans h.bel.size hg.size, fun k hk => (hg.block k (Nat.lt_of_lt_of_le hk h.bel.size) (fun e => by have := h.hr; injection e with e; omega)).trans (h.bel.block k hk)⟩, hrg, h.hb, h.hr⟩
end Go.Proofs.Ytibhjlmffgabgaa.PAll
