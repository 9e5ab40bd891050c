/-
  pool.made: a constant with what it points at.
-/
import Derived.Test.YtedmhopginmjaaaMade
namespace Go.Proofs.Ytedmhopginmjaaa.PAll
open Go.RowKit Go.Proofs.YtedmhopginmjaaaW.PrintWords Go.Proofs.YtedmhopginmjaaaW.PrintLast Go.Proofs.YtedmhopginmjaaaW.PrintMore
open Go.Proofs.Ytedmhopginmjaaa.MapInt
set_option linter.unusedVariables false
set_option linter.unusedSimpArgs false
def conC (x : S44) : Array Value := #[.int .i64 x.f0, .int .i64 x.f1, .string x.f2, .string x.f3, .string x.f4]
theorem conC_one (x : S44) : (conC x).all (·.oneCell') = true := by simp [conC, Value.oneCell']
theorem infoC : (Try.prog.info? 44).map (·.size) = some 5 := by kernel_rfl
theorem oiI64 : (Try.prog.info? 2).map (·.size) = some 1 := by kernel_rfl
def conZ (k : Int) : S44 := ⟨k, 0, ⟨#[]⟩, ⟨#[]⟩, ⟨#[]⟩⟩
/-- An unsigned number's low half, a signed one. -/
def lowF (x : Int) : Int := wrap32 x
structure MS (w wx : World) (b4 b6 b7 : Nat) (c4 : Array Value) (x : SR) (c7 : S44) : Prop where
  bel : Below w.heap.size w wx
  k4 : Blk wx b4 44 c4
  k6 : Blk wx b6 62 (rawC x)
  k7 : Blk wx b7 44 (conC c7)
  n4 : w.heap.size ≤ b4
  n6 : w.heap.size ≤ b6
  n7 : w.heap.size ≤ b7
  ne : b4 ≠ b7
section
variable {w wx w2 : World} {b4 b6 b7 : Nat} {c4 c5 : Array Value} {x y : SR} {c7 d7 : S44}
theorem MS.put7 (h : MS w wx b4 b6 b7 c4 x c7) (hb : Blk w2 b7 44 (conC d7)) (hg : wx.grownBy w2 (some b7)) : MS w w2 b4 b6 b7 c4 x d7 :=
  ⟨h.bel.grown hg h.bel.size (fun k hk => by cases hk; exact h.n7), h.k4.kept hg (fun e => h.ne (by injection e)), h.k6.kept hg (fun e => by injection e with e; exact h.k6.ne_type h.k7 (by decide) e), hb, h.n4, h.n6, h.n7, h.ne⟩
theorem MS.put6 (h : MS w wx b4 b6 b7 c4 x c7) (hb : Blk w2 b6 62 (rawC y)) (hg : wx.grownBy w2 (some b6)) : MS w w2 b4 b6 b7 c4 y c7 :=
  ⟨h.bel.grown hg h.bel.size (fun k hk => by cases hk; exact h.n6), h.k4.kept hg (fun e => by injection e with e; exact h.k4.ne_type h.k6 (by decide) e), hb, h.k7.kept hg (fun e => by injection e with e; exact h.k7.ne_type h.k6 (by decide) e), h.n4, h.n6, h.n7, h.ne⟩
theorem MS.put4 (h : MS w wx b4 b6 b7 c4 x c7) (hb : Blk w2 b4 44 c5) (hg : wx.grownBy w2 (some b4)) : MS w w2 b4 b6 b7 c5 x c7 :=
  ⟨h.bel.grown hg h.bel.size (fun k hk => by cases hk; exact h.n4), hb, h.k6.kept hg (fun e => by injection e with e; exact h.k6.ne_type h.k4 (by decide) e), h.k7.kept hg (fun e => h.ne (by injection e with e; exact e.symm)), h.n4, h.n6, h.n7, h.ne⟩
theorem MS.below (h : MS w wx b4 b6 b7 c4 x c7) (hb : Below wx.heap.size wx w2) : MS w w2 b4 b6 b7 c4 x c7 :=
  ⟨below_step h.bel hb, h.k4.below hb, h.k6.below hb, h.k7.below hb, h.n4, h.n6, h.n7, h.ne⟩
end
end Go.Proofs.Ytedmhopginmjaaa.PAll
