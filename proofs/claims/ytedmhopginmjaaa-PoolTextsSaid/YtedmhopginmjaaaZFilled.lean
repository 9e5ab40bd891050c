import Derived.Test.YtedmhopginmjaaaZG5
import Derived.Test.YtedmhopginmjaaaZPAllx7
import Derived.Deep.RegionWith
namespace Go.Proofs.Ytedmhopginmjaaa.PAll
open Go.RowKit Go.Proofs.YtedmhopginmjaaaW.PrintWords Go.Proofs.YtedmhopginmjaaaW.PrintLast Go.Proofs.YtedmhopginmjaaaW.PrintMore
open Go.Proofs.Ytedmhopginmjaaa.MapInt
set_option linter.unusedVariables false
set_option linter.unusedSimpArgs false
def entC (x : S70) : Array Value := #[.int .i64 x.f0.f0, .int .i64 x.f0.f1, .string x.f0.f2, .string x.f0.f3, .string x.f0.f4, .int .i64 x.f1, .int .i64 x.f2, .int .i64 x.f3]
structure FS (w wx : World) (b3 b4 b6 : Nat) (x : S70) (c4 : Array Value) (c6 : S44) : Prop where
  bel : Below w.heap.size w wx
  k3 : Blk wx b3 70 (entC x)
  k4 : Blk wx b4 44 c4
  k6 : Blk wx b6 44 (conC c6)
  n4 : w.heap.size ≤ b4
  n6 : w.heap.size ≤ b6
  ne : b4 ≠ b6
section
variable {w wx w2 : World} {b3 b4 b6 : Nat} {c4 c5 : Array Value} {x : S70} {c6 d6 : S44}
theorem FS.below (h : FS w wx b3 b4 b6 x c4 c6) (hb : Below wx.heap.size wx w2) : FS w w2 b3 b4 b6 x c4 c6 :=
  ⟨below_step h.bel hb, h.k3.below hb, h.k4.below hb, h.k6.below hb, h.n4, h.n6, h.ne⟩
theorem FS.put4 (h : FS w wx b3 b4 b6 x c4 c6) (hb : Blk w2 b4 44 c5) (hg : wx.grownBy w2 (some b4)) : FS w w2 b3 b4 b6 x c5 c6 :=
  ⟨h.bel.grown hg h.bel.size (fun k hk => by cases hk; exact h.n4), h.k3.kept hg (fun e => by injection e with e; exact h.k3.ne_type h.k4 (by decide) e), hb, h.k6.kept hg (fun e => h.ne (by injection e with e; exact e.symm)), h.n4, h.n6, h.ne⟩
end
end Go.Proofs.Ytedmhopginmjaaa.PAll
