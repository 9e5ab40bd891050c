import Derived.Test.YtibhjlmffgabgaaZGState
import Derived.Test.YtibhjlmffgabgaaZWalkFills
import Derived.Deep.CutBlock
import Derived.Deep.DeepCutAuto
namespace Go.Proofs.Ytibhjlmffgabgaa.PAll
open Go.RowKit Go.Proofs.YtibhjlmffgabgaaW.PrintWords Go.Proofs.YtibhjlmffgabgaaW.PrintLast Go.Proofs.YtibhjlmffgabgaaW.PrintMore
open Go.Proofs.Ytibhjlmffgabgaa.MapInt
set_option linter.unusedVariables false
set_option linter.unusedSimpArgs false
def good (x : S35) : Bool := decide (x.f1.length ≤ 50) && !(decide (x.f0 = 2) && decide (500 < x.f3))
def isShape (x : S35) : Bool := decide (x.f0 = 0) || decide (x.f0 = 1)
structure Stop (l : List S35) (i : Nat) : Prop where
  le : i ≤ l.length
  m : i ≤ 100
  gd : ∀ j x, j < i → l[j]? = some x → good x = true
  st : i = 100 ∨ i = l.length ∨ ∃ x, l[i]? = some x ∧ good x = false
structure GL (W w : World) (l : List S35) (i : Nat) (vs : Value) (ls : List LC) : Prop where
  bel : Below W.heap.size W w
  own : w.ownsRow W.heap.size 35 7 vs ls.length (ls.flatMap lcC)
  eq : ls.map (·.x) = (l.take i).filter isShape
  lr : ∀ c ∈ ls, LR W c
  gd : ∀ j x, j < i → l[j]? = some x → good x = true
  len : ls.length ≤ i
theorem GL.below {W w w2 : World} {l : List S35} {i : Nat} {vs : Value} {ls : List LC} (h : GL W w l i vs ls) (hb : Below w.heap.size w w2) : GL W w2 l i vs ls := ⟨below_step h.bel hb, own_below h.own hb, h.eq, h.lr, h.gd, h.len⟩
theorem take_filter {l : List S35} {i : Nat} {x : S35} (hx : l[i]? = some x) : (l.take (i + 1)).filter isShape = (l.take i).filter isShape ++ (if isShape x = true then [x] else []) := by
  have hlt := (List.getElem?_eq_some_iff.1 hx).1
  rw [List.take_succ_eq_append_getElem hlt, List.filter_append]
  have : l[i] = x := (List.getElem?_eq_some_iff.1 hx).2
  rw [this]
  congr 1
  cases h : isShape x <;> simp [List.filter, h]
theorem GL.skip {W w : World} {l : List S35} {i : Nat} {vs : Value} {ls : List LC} {x : S35} (h : GL W w l i vs ls) (hx : l[i]? = some x) (hg : good x = true) (hs : isShape x = false) : GL W w l (i + 1) vs ls :=
  ⟨h.bel, h.own, by rw [take_filter hx, hs, if_neg (by decide), List.append_nil]; exact h.eq, h.lr, fun j y hj hy => by
    rcases Nat.lt_or_ge j i with h1 | h1
    · exact h.gd j y h1 hy
    · obtain rfl : j = i := by omega
      rw [hx] at hy; injection hy with hy; subst hy; exact hg, by have := h.len; omega⟩
theorem GL.push {W w w2 : World} {l : List S35} {i : Nat} {vs vs2 : Value} {ls : List LC} {c : LC} {o : Obj} (h : GL W w l i vs ls) (hx : l[i]? = some c.x) (hg : good c.x = true) (hs : isShape c.x = true) (hr : LR W c) (ho : w2.ownsRow W.heap.size 35 7 vs2 (ls.length + 1) (ls.flatMap lcC ++ lcC c)) (hgr : (w.alloc o).grownBy w2 vs.ownBlock) : GL W w2 l (i + 1) vs2 (ls ++ [c]) :=
  ⟨((below_alloc h.bel o).grown hgr (by have := h.bel.size; rw [sz_alloc]; omega) (fun k hk => (own_row_lt h.own k hk).2)), by rw [List.length_append, List.flatMap_append]; simpa using ho, by rw [take_filter hx, hs, if_pos rfl, List.map_append, h.eq]; rfl, fun d hd => by
    rcases List.mem_append.1 hd with e | e
    · exact h.lr d e
    · simp at e; subst e; exact hr, fun j y hj hy => by
    rcases Nat.lt_or_ge j i with h1 | h1
    · exact h.gd j y h1 hy
    · obtain rfl : j = i := by omega
      rw [hx] at hy; injection hy with hy; subst hy; exact hg, by rw [List.length_append]; have := h.len; simp; omega⟩
def shOfC (x : S35) : S65 := if x.f0 = 0 then ⟨x.f1.map (· == 3), false, false⟩ else ⟨[], true, x.f2 == 3⟩
section
variable {W w : World} {P : Nat → Prop} {g most b3 b10 b11 bm : Nat} {shs : List S65} {T : List Thg} {mv : Int} {v : Value} {O : List Int} {vo : Value} {out : List Int} {vs : Value} {ls : List LC}
end
end Go.Proofs.Ytibhjlmffgabgaa.PAll
