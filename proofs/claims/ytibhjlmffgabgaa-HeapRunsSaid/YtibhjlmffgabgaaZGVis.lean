import Derived.Test.YtibhjlmffgabgaaZAbs
namespace Go.Proofs.Ytibhjlmffgabgaa.PAll
open Go.RowKit Go.Proofs.YtibhjlmffgabgaaW.PrintWords Go.Proofs.YtibhjlmffgabgaaW.PrintLast Go.Proofs.YtibhjlmffgabgaaW.PrintMore
open Go.Proofs.Ytibhjlmffgabgaa.MapInt
set_option linter.unusedVariables false
set_option linter.unusedSimpArgs false
def posF (O : List Int) (x : Int) : Option Int := if x ∈ O then some ((O.idxOf x : Nat) + 1 : Int) else none
theorem posF_snoc {O : List Int} {x : Int} (h : x ∉ O) (k : Int) : posF (O ++ [x]) k = upd (posF O) x ((O.length : Int) + 1) k := by
  simp only [upd, posF]
  by_cases e : k = x
  · subst e
    rw [if_pos rfl, if_pos (by simp), List.idxOf_append, if_neg h]
    simp
  · rw [if_neg e]
    by_cases hk : k ∈ O
    · rw [if_pos hk, if_pos (by simp [hk]), List.idxOf_append, if_pos hk]
    · rw [if_neg hk, if_neg (by simp [hk, e])]
structure GK (W w : World) (g b3 b10 b11 bm : Nat) (v : Value) (O : List Int) : Prop where
  bel : Below W.heap.size W w
  k3 : Blk w b3 23 #[.pointer (some ⟨g, 0, none⟩)]
  k10 : Blk w b10 68 #[.map (some bm)]
  k11 : Blk w b11 30 #[v]
  map : IM Try.prog w bm O.length (posF O)
  own : w.ownsRow W.heap.size 3 1 v O.length (nums .i64 O)
  g11 : W.heap.size ≤ b11
  gm : W.heap.size ≤ bm
section
variable {W w w2 w3 : World} {g b3 b10 b11 bm : Nat} {v v2 : Value} {O : List Int}
theorem GK.below (h : GK W w g b3 b10 b11 bm v O) (hb : Below w.heap.size w w2) : GK W w2 g b3 b10 b11 bm v O :=
  ⟨below_step h.bel hb, h.k3.below hb, h.k10.below hb, h.k11.below hb, h.map.below hb, own_below h.own hb, h.g11, h.gm⟩
structure GP (W w : World) (g b3 b10 b11 bm : Nat) (v : Value) (O : List Int) (x : Int) : Prop where
  bel : Below W.heap.size W w
  k3 : Blk w b3 23 #[.pointer (some ⟨g, 0, none⟩)]
  k10 : Blk w b10 68 #[.map (some bm)]
  k11 : Blk w b11 30 #[v]
  map : IM Try.prog w bm O.length (posF O)
  own : w.ownsRow W.heap.size 3 1 v (O.length + 1) (nums .i64 (O ++ [x]))
  g11 : W.heap.size ≤ b11
  gm : W.heap.size ≤ bm
theorem GK.pushed {x : Int} {o : Obj} {cs : List Value} (h : GK W w g b3 b10 b11 bm v O) (hc : cs = [.int .i64 x]) (ho : w2.ownsRow W.heap.size 3 1 v2 (O.length + 1) (nums .i64 O ++ cs)) (hg : (w.alloc o).grownBy w2 v.ownBlock) (hb : Blk w3 b11 30 #[v2]) (hg2 : w2.grownBy w3 (some b11)) : GP W w3 g b3 b10 b11 bm v2 O x := by
  subst hc
  have ha := h.below ((Below.refl _ _).alloc (Nat.le_refl _) o)
  have r2 : Blk w2 b3 23 _ := ha.k3.kept hg (own_ne_cells h.own h.k3 (by decide))
  have r5 : Blk w2 b10 68 _ := ha.k10.kept hg (own_ne_cells h.own h.k10 (by decide))
  have r6 : Blk w2 b11 30 _ := ha.k11.kept hg (own_ne_cells h.own h.k11 (by decide))
  have rm : IM Try.prog w2 bm O.length (posF O) := ha.map.kept hg (fun e => by
    obtain ⟨_, _, c, hc⟩ := own_block ha.own e.symm
    exact ha.map.ne_cells hc rfl)
  refine ⟨(ha.bel.grown hg ha.bel.size (fun k hk => (own_row_lt h.own k hk).2)).grown hg2 ?_ (fun k hk => by cases hk; exact h.g11), r2.kept hg2 (fun e => by injection e with e; exact r2.ne_type r6 (by decide) e), r5.kept hg2 (fun e => by injection e with e; exact r5.ne_type r6 (by decide) e), hb, rm.kept hg2 (fun e => by injection e with e; exact rm.ne_cells r6 e), ?_, h.g11, h.gm⟩
  · exact Nat.le_trans ha.bel.size hg.size
  · rw [nums_append]
    exact own_kept ho hg2 (fun k hk e => own_ne_cells ho r6 (by decide) (e.symm.trans hk.symm))
theorem GP.mapped {x : Int} (h : GP W w g b3 b10 b11 bm v O x) (hx : x ∉ O) (hm : IM Try.prog w2 bm (O.length + 1) (upd (posF O) x ((O.length : Int) + 1))) (hg : w.grownBy w2 (some bm)) : GK W w2 g b3 b10 b11 bm v (O ++ [x]) :=
  ⟨h.bel.grown hg h.bel.size (fun k hk => by cases hk; exact h.gm), h.k3.kept hg (fun e => by injection e with e; exact h.map.ne_cells h.k3 e.symm), h.k10.kept hg (fun e => by injection e with e; exact h.map.ne_cells h.k10 e.symm), h.k11.kept hg (fun e => by injection e with e; exact h.map.ne_cells h.k11 e.symm), by rw [List.length_append]; exact hm.ext (fun k _ => posF_snoc hx k),
   by rw [List.length_append]; exact own_kept h.own hg (fun k hk e => by
    injection e with e
    subst e
    obtain ⟨_, _, c, hc⟩ := own_block h.own hk
    exact h.map.ne_cells hc rfl), h.g11, h.gm⟩
theorem GK.box1 {o : Obj} (h : GK W w g b3 b10 b11 bm v O) (hg : (w.alloc o).grownBy w2 v.ownBlock) : Blk w2 b11 30 #[v] := (h.k11.alloc o).kept hg (own_ne_cells h.own h.k11 (by decide))
end
def isT (shs : List S65) (T : List Thg) (x : Int) : Bool := (findT shs T 1 x).isSome
def vQ (shs : List S65) (T : List Thg) (O : List Int) (x : Int) : List Int := if isT shs T x = true ∧ x ∉ O then O ++ [x] else O
def vR (shs : List S65) (T : List Thg) (O : List Int) (x : Int) : Int := if isT shs T x = true then (((vQ shs T O x).idxOf x : Nat) : Int) + 1 else 0
end Go.Proofs.Ytibhjlmffgabgaa.PAll
