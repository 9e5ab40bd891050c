import Derived.Laws.AppendOwn
import Derived.Below
import Derived.OwnWalk
import Derived.Laws.Rows
import Derived.Deep.MidRow
import Derived.Maps.OwnSet
import Derived.Laws.IdiomCopy
import Derived.Maps.AppendAt
section
namespace Go.Proofs.Ytedmhopginmjaaa.MapInt
set_option linter.unusedVariables false
set_option linter.unusedSimpArgs false
open Go.RowKit
section
variable {P : Program} {W : World} {ops : Array Oper} {rest : List Oper} {o : Oper} {a : Act} {Q : Exit → Act → World → Prop}
theorem own_below {w w' : World} {base : Nat} {e : TypeId} {size n : Nat} {v : Value} {xs : List Value} (h : w.ownsRow base e size v n xs) (hb : Below w.heap.size w w') : w'.ownsRow base e size v n xs := by
  obtain ⟨h1, h2⟩ := h
  refine ⟨h1, ?_⟩
  rcases h2 with h2 | ⟨g, cap, cur, rfl, hg, hh, r⟩
  · exact .inl h2
  · refine .inr ⟨g, cap, cur, rfl, hg, ?_, r⟩
    have hlt : g < w.heap.size := by
      rcases Nat.lt_or_ge g w.heap.size with h | h
      · exact h
      · rw [Array.getElem?_eq_none h] at hh; cases hh
    rw [hb.block g hlt]; exact hh
theorem own_alloc' {w : World} {base : Nat} {e : TypeId} {size n : Nat} {v : Value} {xs : List Value} (h : w.ownsRow base e size v n xs) (o : Obj) : (w.alloc o).ownsRow base e size v n xs := own_below h ((Below.refl _ _).alloc (Nat.le_refl _) o)
theorem app_new (hgd : o.guard = none) (s x : Operand) (t e : TypeId) (z : Value) (size bytes : Nat) (ho : o.op = .call { callee := .builtin .append, args := #[s, x], argTypes := #[t, t] })
    (ht : P.underlying t = some (.slice e)) (hinfo : (P.info? e).map (fun i => (i.zero, i.size, i.bytes)) = some (some z, size, bytes)) (hzs : z.cells.size = size) (hsz : 0 < size)
    {B : Nat} {v : Value} {n : Nat} {xs : List Value} (hs : a.eval s = v) (hown : W.ownsRow B e size v n xs) (cs : Array Value) (m : Nat) (hx : a.eval x = .slice (some ⟨W.heap.size, 0, none⟩) m m)
    (hl : cs.size = m * size) (h1 : ∀ u ∈ cs.toList, u.oneCell' = true) (hlen : n + m ≤ 9223372036854775807) (hbytes : (n + m) * bytes ≤ 140737488355328) (hB : B ≤ W.heap.size)
    (hK : ∀ v' w', w'.ownsRow B e size v' (n + m) (xs ++ cs.toList) → (W.alloc (.cells cs e)).grownBy w' v.ownBlock → wpList P ops Q rest (a.put o.dst v') w') : wpList P ops Q (o :: rest) a (W.alloc (.cells cs e)) := by
  obtain ⟨i, hi, hz, hsize, hby⟩ : ∃ i, P.info? e = some i ∧ i.zero = some z ∧ i.size = size ∧ i.bytes = bytes := by
    cases h : P.info? e with
    | none => rw [h] at hinfo; cases hinfo
    | some i =>
      rw [h] at hinfo
      simp only [Option.map_some, Option.some.injEq, Prod.mk.injEq] at hinfo
      exact ⟨i, rfl, hinfo.1, hinfo.2.1, hinfo.2.2⟩
  refine wpList_append_own _ hgd s x t ho B e i z size bytes ht hi hz hsize hby hzs hsz v n xs hs (own_alloc' hown _) ⟨W.heap.size, 0, none⟩ m m cs.toList hx (by simpa using hl) ?_ h1 (by unfold maxLen; exact hlen) hbytes (by simp; omega) (fun v' w' h2 h3 _ => hK v' w' h2 h3)
  intro j u hu
  have hadd : ∀ j : Nat, (⟨W.heap.size, 0, none⟩ : Addr).add j = ⟨W.heap.size, j, none⟩ := by
    intro j
    unfold Addr.add
    split
    · rename_i h; subst h; rfl
    · simp
  rw [hadd]
  simp [World.cell?, World.alloc, -World.alloc_eq]
  simpa using hu
theorem own_row_lt {w : World} {base : Nat} {e : TypeId} {size n : Nat} {v : Value} {xs : List Value} (h : w.ownsRow base e size v n xs) : ∀ k, v.ownBlock = some k → k < w.heap.size ∧ base ≤ k := by
  intro k hk
  rcases h.2 with ⟨rfl, _⟩ | ⟨g, cap, cur, rfl, hb, hh, _⟩
  · simp [Value.ownBlock] at hk
  · have : g = k := by simpa [Value.ownBlock] using hk
    subst this
    rcases Nat.lt_or_ge g w.heap.size with h | h
    · exact ⟨h, hb⟩
    · rw [Array.getElem?_eq_none h] at hh; cases hh
end
end Go.Proofs.Ytedmhopginmjaaa.MapInt
end
section
namespace Go.Proofs.Ytedmhopginmjaaa.MapInt
set_option linter.unusedVariables false
set_option linter.unusedSimpArgs false
open Go.RowKit Go.ChangeMaps
def Blk (w : World) (g : Nat) (e : TypeId) (cs : Array Value) : Prop := w.heap[g]? = some (.cells cs e (0, 0))
section
variable {P : Program} {w w' : World} {g : Nat} {e : TypeId} {cs : Array Value}
theorem Blk.lt (h : Blk w g e cs) : g < w.heap.size := by
  rcases Nat.lt_or_ge g w.heap.size with h1 | h1
  · exact h1
  · rw [Blk, Array.getElem?_eq_none h1] at h; cases h
theorem Blk.made (w : World) (e : TypeId) (cs : Array Value) : Blk (w.alloc (.cells cs e)) w.heap.size e cs := by
  show (w.heap.push _)[w.heap.size]? = _; simp
theorem Blk.kept {row : Option Nat} (h : Blk w g e cs) (hg : w.grownBy w' row) (hne : some g ≠ row) : Blk w' g e cs := by
  unfold Blk; rw [hg.block g h.lt hne]; exact h
theorem Blk.below (h : Blk w g e cs) (hb : Below w.heap.size w w') : Blk w' g e cs := by unfold Blk; rw [hb.block g h.lt]; exact h
theorem Blk.alloc (h : Blk w g e cs) (o : Obj) : Blk (w.alloc o) g e cs := h.below ((Below.refl _ _).alloc (Nat.le_refl _) o)
theorem Blk.cell (h : Blk w g e cs) {o : Nat} {v : Value} (hv : cs[o]? = some v) : w.cell? ⟨g, o, none⟩ = some v := (cell_of_row w g o cs e (0, 0) h).trans hv
theorem Blk.ne_type (h : Blk w g e cs) {g' : Nat} {e' : TypeId} {cs' : Array Value} (h' : Blk w g' e' cs') (hne : e ≠ e') : g ≠ g' := by
  intro e1; subst e1
  unfold Blk at h h'
  rw [h] at h'; injection h' with h'; injection h' with _ h'; exact hne h'
theorem run_load_cell {ty : TypeId} {d : TypeDesc} (hu : P.underlying ty = some d) (hd : d.isRow = false) {ad : Addr} {v : Value} (hc : w.cell? ad = some v) : (loadVar ty ad).run P w = .ok v w := by
  have hagg : (isAgg ty).run P w = .ok false w := by
    unfold isAgg
    rw [Sem.run_bind, run_underlying hu w]
    cases d <;> simp_all [TypeDesc.isRow]
  simp [loadVar, Sem.run_bind, hagg, hc, Result.andThen]
variable {ops : Array Oper} {rest : List Oper} {o : Oper} {a : Act} {Q : Exit → Act → World → Prop}
theorem cell_load (hg : o.guard = none) (ty : TypeId) (x : Operand) (hop : o.op = .load ty x) {d : TypeDesc} (hu : P.underlying ty = some d) (hd : d.isRow = false) {ad : Addr} {v : Value} (hx : a.eval x = .pointer (some ad)) (hc : w.cell? ad = some v)
    (hK : wpList P ops Q rest (a.put o.dst v) w) : wpList P ops Q (o :: rest) a w := by
  refine wpList_plain hg fun K' hK' => ?_
  unfold Oper.wp execOp
  simp only [hop, hx, Instr.loadAt, Instr.sureAddr, Sem.run_bind, Sem.run_pure, Result.andThen_ok, run_load_cell hu hd hc]
  exact hK' _ _ hK
theorem run_store_cell {ty : TypeId} (hi : (P.info? ty).map (·.size) = some 1) {q : Nat} {v : Value} (hb : Blk w g e cs) (hq : q < cs.size) (h1 : v.oneCell' = true) : (storeVar ty ⟨g, q, none⟩ v).run P w = .ok () (w.setCell ⟨g, q, none⟩ v) := by
  cases hp : P.info? ty with
  | none => simp [hp] at hi
  | some i =>
    have hs : i.size = 1 := by simpa [hp] using hi
    have hvc : v.cells = #[v] := by cases v <;> first | rfl | (simp [Value.oneCell'] at h1)
    have hcell : w.cell? ⟨g, q, none⟩ = some cs[q] := hb.cell (by simp [hq])
    have hadd : (⟨g, q, none⟩ : Addr).add 0 = ⟨g, q, none⟩ := by unfold Addr.add; split <;> simp_all
    have hfr : w.frozen? ⟨g, q, none⟩ = false := by
      unfold Blk at hb
      simp [World.frozen?, hb]
    simp [storeVar, sizeOf, typeInfo, hp, hs, hvc, storeCells, hadd, run_store P w _ v _ h1, hcell, hfr, Sem.run_bind, Result.andThen]
theorem setCell_blk {q : Nat} {v : Value} (hb : Blk w g e cs) (hq : q < cs.size) : Blk (w.setCell ⟨g, q, none⟩ v) g e (cs.setIfInBounds q v) ∧ w.grownBy (w.setCell ⟨g, q, none⟩ v) (some g) ∧ (w.setCell ⟨g, q, none⟩ v).heap.size = w.heap.size := by
  refine ⟨?_, ⟨rfl, rfl, rfl, by simp [World.setCell], fun k _ hk => Below.heap_setCell w ⟨g, q, none⟩ v k (fun e => hk (by rw [e]))⟩, by simp [World.setCell]⟩
  unfold Blk at *
  simp [World.setCell, Array.getElem?_modify, hb]
theorem cell_store (hg : o.guard = none) (ty : TypeId) (x y : Operand) (hop : o.op = .store ty x y) (hi : (P.info? ty).map (·.size) = some 1) {q : Nat} {v : Value} (hx : a.eval x = .pointer (some ⟨g, q, none⟩)) (hy : a.eval y = v) (h1 : v.oneCell' = true) (hb : Blk w g e cs) (hq : q < cs.size)
    (hK : ∀ w', Blk w' g e (cs.setIfInBounds q v) → w.grownBy w' (some g) → w'.heap.size = w.heap.size → wpList P ops Q rest (a.put o.dst undef) w') : wpList P ops Q (o :: rest) a w := by
  refine wpList_plain hg fun K' hK' => ?_
  unfold Oper.wp execOp
  simp only [hop, hx, hy, Instr.storeAt, Instr.sureAddr, Sem.run_bind, Sem.run_pure, Result.andThen_ok, run_store_cell hi hb hq h1]
  obtain ⟨h1, h2, h3⟩ := setCell_blk (v := v) hb hq
  exact hK' _ _ (hK _ h1 h2 h3)
end
end Go.Proofs.Ytedmhopginmjaaa.MapInt
end
section
namespace Go.Proofs.Ytedmhopginmjaaa.MapInt
set_option linter.unusedVariables false
set_option linter.unusedSimpArgs false
open Go.RowKit Go.ChangeMaps
def putL (cs : Array Value) : Nat → List Value → Array Value
  | _, [] => cs
  | o, v :: vs => putL (cs.setIfInBounds o v) (o + 1) vs
theorem putL_at : ∀ (vs : List Value) (cs : Array Value) (o j : Nat), o + vs.length ≤ cs.size → (putL cs o vs)[j]? = if o ≤ j ∧ j < o + vs.length then vs[j - o]? else cs[j]?
  | [], cs, o, j, h => by
    show cs[j]? = _
    rw [if_neg (fun h2 => by
      have h3 := h2.2
      rw [List.length_nil] at h3
      have h4 := h2.1
      omega)]
  | v :: vs, cs, o, j, h => by
    show (putL (cs.setIfInBounds o v) (o + 1) vs)[j]? = _
    simp only [List.length_cons] at h
    rw [putL_at vs _ _ _ (by simp; omega)]
    by_cases h1 : o + 1 ≤ j ∧ j < o + 1 + vs.length
    · rw [if_pos h1, if_pos (by simp; omega), show j - o = (j - (o + 1)) + 1 by omega]; simp
    · rw [if_neg h1]
      by_cases h2 : j = o
      · subst h2
        rw [if_pos (by simp), Nat.sub_self]
        simp [Array.getElem?_setIfInBounds, show j < cs.size by omega]
      · rw [if_neg (by simp; omega), Array.getElem?_setIfInBounds_ne (fun e => h2 e.symm)]
theorem putL_all (vs : List Value) (cs : Array Value) (h : vs.length = cs.size) : putL cs 0 vs = vs.toArray := by
  apply Array.ext_getElem?
  intro j
  rw [putL_at vs cs 0 j (by omega)]
  by_cases hj : j < vs.length
  · rw [if_pos (by omega)]; simp
  · rw [if_neg (by omega), Array.getElem?_eq_none (by omega), Array.getElem?_eq_none (by simp; omega)]
section
variable {P : Program} {w : World} {g : Nat} {e : TypeId}
theorem setCells_blk : ∀ (vs : List Value) (w : World) (cs : Array Value) (o : Nat), Blk w g e cs → o + vs.length ≤ cs.size → Blk (w.setCells g o vs) g e (putL cs o vs) ∧ w.grownBy (w.setCells g o vs) (some g) ∧ (w.setCells g o vs).heap.size = w.heap.size
  | [], w, cs, o, hb, h => ⟨hb, World.grownBy.refl _ _, rfl⟩
  | v :: vs, w, cs, o, hb, h => by
    simp only [List.length_cons] at h
    obtain ⟨h1, h2, h3⟩ := setCell_blk (q := o) (v := v) hb (by omega)
    obtain ⟨i1, i2, i3⟩ := setCells_blk vs (w.setCell ⟨g, o, none⟩ v) _ (o + 1) h1 (by simp; omega)
    exact ⟨i1, h2.trans i2, i3.trans h3⟩
variable {ops : Array Oper} {rest : List Oper} {o : Oper} {a : Act} {Q : Exit → Act → World → Prop} {cs cs' : Array Value}
theorem blk_load (hg : o.guard = none) (ty : TypeId) (x : Operand) (hop : o.op = .load ty x) {d : TypeDesc} (hu : P.underlying ty = some d) (hd : (match d with | .struct _ | .array _ _ => true | _ => false) = true) (hi : (P.info? ty).map (·.size) = some cs.size)
    (hx : a.eval x = .pointer (some ⟨g, 0, none⟩)) (hb : Blk w g e cs) (hK : wpList P ops Q rest (a.put o.dst (.agg cs)) w) : wpList P ops Q (o :: rest) a w :=
  wpList_load_row hg ty x hop g hx e cs (0, 0) d hb hu hd hi hK
theorem there_blk (hb : Blk w g e cs) : w.there g 0 cs.size := fun j hj => by
  rw [Nat.zero_add]
  refine ⟨?_, frozen_of_row w g j cs e hb⟩
  rw [cell_of_row w g j cs e (0, 0) hb, Array.getElem?_eq_getElem hj]; rfl
theorem blk_store (hg : o.guard = none) (ty : TypeId) (x y : Operand) (hop : o.op = .store ty x y) (hi : (P.info? ty).map (·.size) = some cs'.size) (hx : a.eval x = .pointer (some ⟨g, 0, none⟩)) (hy : a.eval y = .agg cs') (h1 : cs'.all (·.oneCell') = true)
    (hb : Blk w g e cs) (hs : cs'.size = cs.size) (hK : ∀ w', Blk w' g e cs' → w.grownBy w' (some g) → w'.heap.size = w.heap.size → wpList P ops Q rest (a.put o.dst undef) w') : wpList P ops Q (o :: rest) a w := by
  refine wpList_store_mid hg ty x y hop g 0 cs' hx hy (hs ▸ there_blk hb) hi h1 ?_
  obtain ⟨h2, h3, h4⟩ := setCells_blk cs'.toList w cs 0 hb (by simp; omega)
  rw [putL_all _ _ (by simp; omega)] at h2
  exact hK _ (by simpa using h2) h3 h4
end
end Go.Proofs.Ytedmhopginmjaaa.MapInt
end
