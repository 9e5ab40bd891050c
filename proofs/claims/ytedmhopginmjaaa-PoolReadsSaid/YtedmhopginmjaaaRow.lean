/-
  A struct in a block, read and written as one.
-/
import Derived.Test.YtedmhopginmjaaaBox
import Derived.Laws.IdiomCopy
import Derived.Maps.AppendAt
namespace Go.Proofs.Ytedmhopginmjaaa.MapInt
set_option linter.unusedVariables false
set_option linter.unusedSimpArgs false
open Go.RowKit Go.ChangeMaps
def putL (cs : Array Value) : Nat → List Value → Array Value
  | _, [] => cs
  | o, v :: vs => putL (cs.setIfInBounds o v) (o + 1) vs
theorem putL_size : ∀ (vs : List Value) (cs : Array Value) (o : Nat), (putL cs o vs).size = cs.size
  | [], cs, o => rfl
  | v :: vs, cs, o => by
    show (putL (cs.setIfInBounds o v) (o + 1) vs).size = cs.size
    rw [putL_size vs]; simp
theorem putL_at : ∀ (vs : List Value) (cs : Array Value) (o j : Nat), o + vs.length ≤ cs.size → (putL cs o vs)[j]? = if o ≤ j ∧ j < o + vs.length then vs[j - o]? else cs[j]?
  | [], cs, o, j, h => by
    show cs[j]? = _
    rw [if_neg (fun h2 => by
      have h3 := h2.2
      rw [List.length_nil] at h3
      have h4 := h2.1
      omega)]
  | v :: vs, cs, o, j, h => by
    show (putL (cs.setIfInBounds o v) (o + 1) vs)[j]? = _
    simp only [List.length_cons] at h
    rw [putL_at vs _ _ _ (by simp; omega)]
    by_cases h1 : o + 1 ≤ j ∧ j < o + 1 + vs.length
    · rw [if_pos h1, if_pos (by simp; omega), show j - o = (j - (o + 1)) + 1 by omega]; simp
    · rw [if_neg h1]
      by_cases h2 : j = o
      · subst h2
        rw [if_pos (by simp), Nat.sub_self]
        simp [Array.getElem?_setIfInBounds, show j < cs.size by omega]
      · rw [if_neg (by simp; omega), Array.getElem?_setIfInBounds_ne (fun e => h2 e.symm)]
theorem putL_all (vs : List Value) (cs : Array Value) (h : vs.length = cs.size) : putL cs 0 vs = vs.toArray := by
  apply Array.ext_getElem?
  intro j
  rw [putL_at vs cs 0 j (by omega)]
  by_cases hj : j < vs.length
  · rw [if_pos (by omega)]; simp
  · rw [if_neg (by omega), Array.getElem?_eq_none (by omega), Array.getElem?_eq_none (by simp; omega)]
section
variable {P : Program} {w : World} {g : Nat} {e : TypeId}
theorem setCells_blk : ∀ (vs : List Value) (w : World) (cs : Array Value) (o : Nat), Blk w g e cs → o + vs.length ≤ cs.size → Blk (w.setCells g o vs) g e (putL cs o vs) ∧ w.grownBy (w.setCells g o vs) (some g) ∧ (w.setCells g o vs).heap.size = w.heap.size
  | [], w, cs, o, hb, h => ⟨hb, World.grownBy.refl _ _, rfl⟩
  | v :: vs, w, cs, o, hb, h => by
    simp only [List.length_cons] at h
    obtain ⟨h1, h2, h3⟩ := setCell_blk (q := o) (v := v) hb (by omega)
    obtain ⟨i1, i2, i3⟩ := setCells_blk vs (w.setCell ⟨g, o, none⟩ v) _ (o + 1) h1 (by simp; omega)
    exact ⟨i1, h2.trans i2, i3.trans h3⟩
variable {ops : Array Oper} {rest : List Oper} {o : Oper} {a : Act} {Q : Exit → Act → World → Prop} {cs cs' : Array Value}
/-- A struct is read. -/
theorem blk_load (hg : o.guard = none) (ty : TypeId) (x : Operand) (hop : o.op = .load ty x) {d : TypeDesc} (hu : P.underlying ty = some d) (hd : (match d with | .struct _ | .array _ _ => true | _ => false) = true) (hi : (P.info? ty).map (·.size) = some cs.size)
    (hx : a.eval x = .pointer (some ⟨g, 0, none⟩)) (hb : Blk w g e cs) (hK : wpList P ops Q rest (a.put o.dst (.agg cs)) w) : wpList P ops Q (o :: rest) a w :=
  wpList_load_row hg ty x hop g hx e cs (0, 0) d hb hu hd hi hK
theorem there_blk (hb : Blk w g e cs) : w.there g 0 cs.size := fun j hj => by
  rw [Nat.zero_add]
  refine ⟨?_, frozen_of_row w g j cs e hb⟩
  rw [cell_of_row w g j cs e (0, 0) hb, Array.getElem?_eq_getElem hj]; rfl
/-- A struct is written whole. -/
theorem blk_store (hg : o.guard = none) (ty : TypeId) (x y : Operand) (hop : o.op = .store ty x y) (hi : (P.info? ty).map (·.size) = some cs'.size) (hx : a.eval x = .pointer (some ⟨g, 0, none⟩)) (hy : a.eval y = .agg cs') (h1 : cs'.all (·.oneCell') = true)
    (hb : Blk w g e cs) (hs : cs'.size = cs.size) (hK : ∀ w', Blk w' g e cs' → w.grownBy w' (some g) → w'.heap.size = w.heap.size → wpList P ops Q rest (a.put o.dst undef) w') : wpList P ops Q (o :: rest) a w := by
  refine wpList_store_mid hg ty x y hop g 0 cs' hx hy (hs ▸ there_blk hb) hi h1 ?_
  obtain ⟨h2, h3, h4⟩ := setCells_blk cs'.toList w cs 0 hb (by simp; omega)
  rw [putL_all _ _ (by simp; omega)] at h2
  exact hK _ (by simpa using h2) h3 h4
end
end Go.Proofs.Ytedmhopginmjaaa.MapInt
