import Derived.Maps.OwnOps
import Derived.Maps.OwnSet
import Derived.Maps.RangeWalk
import Derived.Maps.Views
import Derived.Below
import Derived.Deep.Draws
import Derived.Laws.AppendOwn
import Derived.OwnWalk
import Derived.Laws.Rows
import Derived.Deep.MidRow
import Derived.Laws.IdiomCopy
import Derived.Maps.AppendAt
import Derived.Test.YtibhjlmffgabgaaZWWords
section
namespace Go.Proofs.Ytibhjlmffgabgaa.MapInt
set_option linter.unusedVariables false
set_option linter.unusedSimpArgs false
open Go.RowKit Go.ChangeMaps Go.MapKept
open Go.Maps (Keyed)
def inR (x : Int) : Prop := -9223372036854775808 ≤ x ∧ x ≤ 9223372036854775807
theorem inR_wf {x : Int} (h : inR x) : (Lit.int .i64 x).wf = true := by
  obtain ⟨h1, h2⟩ := h
  simp [Lit.wf, IntKind.min, IntKind.max, IntKind.signed, IntKind.bits]; omega
theorem wf_inR {x : Int} (h : (Lit.int .i64 x).wf = true) : inR x := by
  simp [Lit.wf, IntKind.min, IntKind.max, IntKind.signed, IntKind.bits] at h
  unfold inR; omega
def Tells (D : DataW Unit) (f : Int → Option Int) : Prop :=
  ∀ k, inR k → match f k with
    | none => Maps.has D (.int .i64 k) = false
    | some v => Maps.has D (.int .i64 k) = true ∧ inR v ∧ ∀ z, D.atKey (.int .i64 k) z = .lit (.int .i64 v)
theorem Tells.none {D : DataW Unit} {f : Int → Option Int} (h : Tells D f) {k : Int} (hk : inR k) (e : f k = none) : Maps.has D (.int .i64 k) = false := by
  have := h k hk; rw [e] at this; exact this
theorem Tells.some {D : DataW Unit} {f : Int → Option Int} (h : Tells D f) {k v : Int} (hk : inR k) (e : f k = some v) : Maps.has D (.int .i64 k) = true ∧ inR v ∧ ∀ z, D.atKey (.int .i64 k) z = .lit (.int .i64 v) := by
  have := h k hk; rw [e] at this; exact this
def IM (P : Program) (w : World) (b n : Nat) (f : Int → Option Int) : Prop := ∃ D : DataW Unit, w.ownsMap P 3 (plainElem P 3) b n D ∧ Tells D f
def upd (f : Int → Option Int) (k v : Int) : Int → Option Int := fun x => if x = k then some v else f x
def del (f : Int → Option Int) (k : Int) : Int → Option Int := fun x => if x = k then none else f x
section
variable {P : Program} {w w' : World} {b n : Nat} {f : Int → Option Int}
theorem IM.made (P : Program) (w : World) : IM P (w.alloc (.map #[] 0)) w.heap.size 0 (fun _ => none) :=
  ⟨.map [], World.ownsMap_made _ _ _ _, fun k _ => by simp [Maps.has_eq]⟩
theorem IM.lt (h : IM P w b n f) : b < w.heap.size := let ⟨_, h, _⟩ := h; h.lt
theorem IM.mono (h : IM P w b n f) {n' : Nat} (hn : n ≤ n') : IM P w b n' f := let ⟨D, h, t⟩ := h; ⟨D, h.mono hn, t⟩
theorem IM.kept {row : Option Nat} (h : IM P w b n f) (hg : w.grownBy w' row) (hne : some b ≠ row) : IM P w' b n f := let ⟨D, h, t⟩ := h; ⟨D, h.kept hg hne, t⟩
theorem IM.move (h : IM P w b n f) (hm : w'.heap[b]? = w.heap[b]?) : IM P w' b n f := by
  obtain ⟨D, ⟨es, c, h1, h2⟩, t⟩ := h
  exact ⟨D, ⟨es, c, hm.trans h1, h2⟩, t⟩
theorem IM.below (h : IM P w b n f) (hb : Below w.heap.size w w') : IM P w' b n f := h.move (hb.block b h.lt)
theorem IM.alloc (h : IM P w b n f) (o : Obj) : IM P (w.alloc o) b n f := h.move (Below.heap_alloc w o b h.lt)
theorem IM.drew (h : IM P w b n f) : IM P w.drew b n f := h
theorem IM.drewN (h : IM P w b n f) (m : Nat) : IM P (w.drewN m) b n f := by
  refine h.move ?_
  rfl
theorem IM.setCell (h : IM P w b n f) {a : Addr} (ha : b ≠ a.block) (u : Value) : IM P (w.setCell a u) b n f := let ⟨D, h, t⟩ := h; ⟨D, h.setCell ha u, t⟩
theorem IM.isMap (h : IM P w b n f) : ∃ es c, w.heap[b]? = some (.map es c) := let ⟨_, ⟨es, c, h, _⟩, _⟩ := h; ⟨es, c, h⟩
theorem IM.ne_cells (h : IM P w b n f) {g : Nat} {cs : Array Value} {e : TypeId} {z : Nat × Nat} (hg : w.heap[g]? = some (.cells cs e z)) : b ≠ g := by
  obtain ⟨es, c, h1⟩ := h.isMap
  intro e; subst e; rw [hg] at h1; cases h1
theorem IM.ext {f' : Int → Option Int} (h : IM P w b n f) (he : ∀ k, inR k → f' k = f k) : IM P w b n f' := by
  obtain ⟨D, h, t⟩ := h
  exact ⟨D, h, fun k hk => by rw [he k hk]; exact t k hk⟩
variable (h3 : P.underlying 3 = some (.int .i64))
include h3
theorem law : Keyed P 3 := Maps.int_keyed h3
theorem IM.get (h : IM P w b n f) {t : TypeId} (ht : P.underlying t = some (.map 3 3)) (hz : (zeroValue 3).run P w = .ok (.int .i64 0) w) {x : Int} (hx : inR x) (ty : Bool) :
    (Instr.lookup t (.map (some b)) (.int .i64 x) ty).run P w = .ok (if ty then .tuple #[.int .i64 ((f x).getD 0), .bool (f x).isSome] else .int .i64 ((f x).getD 0)) w := by
  obtain ⟨D, ho, ht'⟩ := h
  have hkey : keyOf P 3 (.int .i64 x) = some (.int .i64 x) := Maps.keyOf_int_mk h3 (inR_wf hx)
  have hat : D.atKey (.int .i64 x) (.lit (.int .i64 0)) = .lit (.int .i64 ((f x).getD 0)) := by
    cases e : f x with
    | none => exact Maps.atKey_of_not_has (ht'.none hx e) _
    | some v => exact (ht'.some hx e).2.2 _
  have hhas : Maps.has D (.int .i64 x) = (f x).isSome := by
    cases e : f x with
    | none => exact ht'.none hx e
    | some v => exact (ht'.some hx e).1
  cases ty with
  | false =>
    obtain ⟨c, hrun, h1, _⟩ := ho.lookup_int (law h3) ht h3 hz hkey
    rw [hat] at h1
    have : c = (f x).getD 0 := by injection h1 with h1; injection h1 with _ h1; exact h1.symm
    subst this; exact hrun
  | true =>
    obtain ⟨v, ps, hrun, hv⟩ := ho.look_ok (law h3) ht hz (plainElem_int h3 (by decide) : plainElem (H := Unit) P 3 (.int .i64 0) = some (.lit (.int .i64 0), [])) hkey
    obtain ⟨c, rfl, hc, _⟩ := plainElem_int_inv h3 hv
    have h1 := congrArg Prod.fst hc
    simp only at h1
    rw [hat] at h1
    have : c = (f x).getD 0 := by injection h1 with h1; injection h1 with _ h1; exact h1.symm
    subst this; rw [hhas] at hrun; exact hrun
omit h3 in
theorem tells_put {P : Program} (h3 : P.underlying 3 = some (.int .i64)) {D : DataW Unit} (t : Tells D f) (hD : Maps.IsMap D) {x v : Int} (hx : inR x) (hv : inR v) : Tells (D.put (.int .i64 x) (.lit (.int .i64 v))) (upd f x v) := by
  have hkey : keyOf P 3 (.int .i64 x) = some (.int .i64 x) := Maps.keyOf_int_mk h3 (inR_wf hx)
  have hk : WideAt.IsKeyLit (.int .i64 x) := (law h3).key hkey
  intro k hkr
  unfold upd
  by_cases e : k = x
  · subst e
    rw [if_pos rfl]
    exact ⟨Maps.has_put_same hD hk _, hv, fun z => Maps.atKey_put_same hD hk _ _⟩
  · rw [if_neg e]
    have hne : (Lit.int .i64 k) ≠ .int .i64 x := fun h => e (by injection h)
    have := t k hkr
    split
    · rename_i e1
      rw [e1] at this
      rw [Maps.has_put_other hne]; exact this
    · rename_i v' e1
      rw [e1] at this
      exact ⟨by rw [Maps.has_put_other hne]; exact this.1, this.2.1, fun z => by rw [Maps.atKey_put_other hne]; exact this.2.2 z⟩
omit h3 in
theorem tells_del {D : DataW Unit} (t : Tells D f) (x : Int) : Tells (D.del (.int .i64 x)) (del f x) := by
  intro k hkr
  unfold MapInt.del
  by_cases e : k = x
  · subst e
    rw [if_pos rfl]
    exact Maps.has_del_same
  · rw [if_neg e]
    have hne : (Lit.int .i64 k) ≠ .int .i64 x := fun h => e (by injection h)
    have := t k hkr
    split
    · rename_i e1
      rw [e1] at this
      rw [Maps.has_del_other hne]; exact this
    · rename_i v' e1
      rw [e1] at this
      exact ⟨by rw [Maps.has_del_other hne]; exact this.1, this.2.1, fun z => by rw [Maps.atKey_del_other hne]; exact this.2.2 z⟩
variable {ops : Array Oper} {rest : List Oper} {o : Oper} {a : Act} {Q : Exit → Act → World → Prop}
theorem look (hg : o.guard = none) (m x : Operand) (t : TypeId) (hop : o.op = Op.lookup t m x false) (ht : P.underlying t = some (.map 3 3)) (hz : (zeroValue 3).run P w = .ok (.int .i64 0) w)
    (hm : a.eval m = .map (some b)) (h : IM P w b n f) {kx : Int} (hx : a.eval x = .int .i64 kx) (hr : inR kx)
    (hK : wpList P ops Q rest (a.put o.dst (.int .i64 ((f kx).getD 0))) w) : wpList P ops Q (o :: rest) a w := by
  refine wpList_plain hg fun K' hK' => ?_
  have hrun := h.get h3 ht hz hr false
  unfold Oper.wp
  simp [execOp, hop, hm, hx, hrun, Result.andThen]
  exact hK' _ _ hK
theorem look_ok (hg : o.guard = none) (m x : Operand) (t : TypeId) (hop : o.op = Op.lookup t m x true) (ht : P.underlying t = some (.map 3 3)) (hz : (zeroValue 3).run P w = .ok (.int .i64 0) w)
    (hm : a.eval m = .map (some b)) (h : IM P w b n f) {kx : Int} (hx : a.eval x = .int .i64 kx) (hr : inR kx)
    (hK : wpList P ops Q rest (a.put o.dst (.tuple #[.int .i64 ((f kx).getD 0), .bool (f kx).isSome])) w) : wpList P ops Q (o :: rest) a w := by
  refine wpList_plain hg fun K' hK' => ?_
  have hrun := h.get h3 ht hz hr true
  unfold Oper.wp
  simp [execOp, hop, hm, hx, hrun, Result.andThen]
  exact hK' _ _ hK
theorem store (hg : o.guard = none) (m x v : Operand) (t : TypeId) (hop : o.op = Op.mapUpdate t m x v) (ht : P.underlying t = some (.map 3 3))
    (hm : a.eval m = .map (some b)) (h : IM P w b n f) (hn : n < 9223372036854775807) {kx vx : Int} (hx : a.eval x = .int .i64 kx) (hv : a.eval v = .int .i64 vx) (hr : inR kx) (hrv : inR vx)
    (hK : ∀ w', IM P w' b (n + 1) (upd f kx vx) → w.grownBy w' (some b) → w'.heap.size = w.heap.size → wpList P ops Q rest (a.put o.dst undef) w') : wpList P ops Q (o :: rest) a w := by
  refine wpList_plain hg fun K' hK' => ?_
  obtain ⟨D, ho, ht'⟩ := h
  have hkey : keyOf P 3 (.int .i64 kx) = some (.int .i64 kx) := Maps.keyOf_int_mk h3 (inR_wf hr)
  obtain ⟨w', hrun, r1, r2⟩ := ho.store (law h3) ht (by unfold maxLen; exact hn) hkey (plainElem_int h3 (inR_wf hrv) : plainElem (H := Unit) P 3 (.int .i64 vx) = some (.lit (.int .i64 vx), []))
  have hsz : w'.heap.size = w.heap.size := by obtain ⟨es, c, es', c', _, rfl⟩ := r2; simp [setBlock]
  unfold Oper.wp
  simp [execOp, hop, hm, hx, hv, hrun, Result.andThen]
  exact hK' _ _ (hK w' ⟨_, r1, tells_put h3 ht' ho.isMap hr hrv⟩ r2.grown hsz)
theorem drop (hg : o.guard = none) (m x : Operand) (t : TypeId) (hop : o.op = Op.call { callee := Callee.builtin Builtin.delete, args := #[m, x], argTypes := #[t, 3] }) (ht : P.underlying t = some (.map 3 3))
    (hm : a.eval m = .map (some b)) (h : IM P w b n f) {kx : Int} (hx : a.eval x = .int .i64 kx) (hr : inR kx)
    (hK : ∀ w', IM P w' b n (del f kx) → w.grownBy w' (some b) → w'.heap.size = w.heap.size → wpList P ops Q rest (a.put o.dst (.tuple #[])) w') : wpList P ops Q (o :: rest) a w := by
  refine wpList_plain hg fun K' hK' => ?_
  obtain ⟨D, ho, ht'⟩ := h
  have hkey : keyOf P 3 (.int .i64 kx) = some (.int .i64 kx) := Maps.keyOf_int_mk h3 (inR_wf hr)
  obtain ⟨w', hrun, r1, r2⟩ := ho.drop (law h3) ht hkey o.type
  have hsz : w'.heap.size = w.heap.size := by obtain ⟨es, c, es', c', _, rfl⟩ := r2; simp [setBlock]
  unfold Oper.wp
  simp [execOp, hop, resolve, invoke, builtin, hm, hx, hrun, Result.andThen]
  exact hK' _ _ (hK w' ⟨_, r1, tells_del ht' kx⟩ r2.grown hsz)
end
end Go.Proofs.Ytibhjlmffgabgaa.MapInt
end
section
namespace Go.Proofs.Ytibhjlmffgabgaa.MapInt
set_option linter.unusedVariables false
set_option linter.unusedSimpArgs false
open Go.RowKit
section
variable {P : Program} {W : World} {ops : Array Oper} {rest : List Oper} {o : Oper} {a : Act} {Q : Exit → Act → World → Prop}
theorem own_ne_cells {w : World} {base : Nat} {e t : TypeId} {size n g : Nat} {v : Value} {xs : List Value} {z : Nat × Nat} {cs : Array Value} (h : w.ownsRow base e size v n xs) (hg : w.heap[g]? = some (.cells cs t z)) (hne : e ≠ t) : some g ≠ v.ownBlock := by
  rcases h.2 with ⟨rfl, _⟩ | ⟨g', cap, cur, rfl, _, hh, _⟩
  · simp [Value.ownBlock]
  · intro e'
    have : g = g' := by simpa [Value.ownBlock] using e'
    subst this
    rw [hg] at hh
    injection hh with hh; injection hh with _ hh; exact hne hh.symm
theorem own_block {w : World} {base : Nat} {e : TypeId} {size n : Nat} {v : Value} {xs : List Value} (h : w.ownsRow base e size v n xs) {k : Nat} (hk : v.ownBlock = some k) : base ≤ k ∧ k < w.heap.size ∧ ∃ cs, w.heap[k]? = some (.cells cs e (0, 0)) := by
  rcases h.2 with ⟨rfl, _⟩ | ⟨g, cap, cur, rfl, hb, hh, _⟩
  · simp [Value.ownBlock] at hk
  · have : g = k := by simpa [Value.ownBlock] using hk
    subst this
    rcases Nat.lt_or_ge g w.heap.size with h | h
    · exact ⟨hb, h, cur, hh⟩
    · rw [Array.getElem?_eq_none h] at hh; cases hh
theorem own_apart {w : World} {b1 b2 : Nat} {e1 e2 : TypeId} {s1 s2 n1 n2 : Nat} {v1 v2 : Value} {x1 x2 : List Value} (h1 : w.ownsRow b1 e1 s1 v1 n1 x1) (h2 : w.ownsRow b2 e2 s2 v2 n2 x2) (hne : e1 ≠ e2) : ∀ k, v1.ownBlock = some k → some k ≠ v2.ownBlock := by
  intro k hk e
  obtain ⟨_, _, c1, hc1⟩ := own_block h1 hk
  obtain ⟨_, _, c2, hc2⟩ := own_block h2 e.symm
  rw [hc1] at hc2
  injection hc2 with hc2; injection hc2 with _ hc2; exact hne hc2
theorem own_kept {w w' : World} {base : Nat} {e : TypeId} {size n : Nat} {v : Value} {xs : List Value} {row : Option Nat} (h : w.ownsRow base e size v n xs) (hg : w.grownBy w' row) (hne : ∀ k, v.ownBlock = some k → some k ≠ row) : w'.ownsRow base e size v n xs := by
  obtain ⟨h1, h2⟩ := h
  refine ⟨h1, ?_⟩
  rcases h2 with h2 | ⟨g, cap, cur, rfl, hb, hh, r⟩
  · exact .inl h2
  · refine .inr ⟨g, cap, cur, rfl, hb, ?_, r⟩
    have hlt : g < w.heap.size := by
      rcases Nat.lt_or_ge g w.heap.size with h | h
      · exact h
      · rw [Array.getElem?_eq_none h] at hh; cases hh
    rw [hg.block g hlt (hne g rfl)]; exact hh
theorem own_below {w w' : World} {base : Nat} {e : TypeId} {size n : Nat} {v : Value} {xs : List Value} (h : w.ownsRow base e size v n xs) (hb : Below w.heap.size w w') : w'.ownsRow base e size v n xs := by
  obtain ⟨h1, h2⟩ := h
  refine ⟨h1, ?_⟩
  rcases h2 with h2 | ⟨g, cap, cur, rfl, hg, hh, r⟩
  · exact .inl h2
  · refine .inr ⟨g, cap, cur, rfl, hg, ?_, r⟩
    have hlt : g < w.heap.size := by
      rcases Nat.lt_or_ge g w.heap.size with h | h
      · exact h
      · rw [Array.getElem?_eq_none h] at hh; cases hh
    rw [hb.block g hlt]; exact hh
theorem own_alloc' {w : World} {base : Nat} {e : TypeId} {size n : Nat} {v : Value} {xs : List Value} (h : w.ownsRow base e size v n xs) (o : Obj) : (w.alloc o).ownsRow base e size v n xs := own_below h ((Below.refl _ _).alloc (Nat.le_refl _) o)
theorem app_new (hgd : o.guard = none) (s x : Operand) (t e : TypeId) (z : Value) (size bytes : Nat) (ho : o.op = .call { callee := .builtin .append, args := #[s, x], argTypes := #[t, t] })
    (ht : P.underlying t = some (.slice e)) (hinfo : (P.info? e).map (fun i => (i.zero, i.size, i.bytes)) = some (some z, size, bytes)) (hzs : z.cells.size = size) (hsz : 0 < size)
    {B : Nat} {v : Value} {n : Nat} {xs : List Value} (hs : a.eval s = v) (hown : W.ownsRow B e size v n xs) (cs : Array Value) (m : Nat) (hx : a.eval x = .slice (some ⟨W.heap.size, 0, none⟩) m m)
    (hl : cs.size = m * size) (h1 : ∀ u ∈ cs.toList, u.oneCell' = true) (hlen : n + m ≤ 9223372036854775807) (hbytes : (n + m) * bytes ≤ 140737488355328) (hB : B ≤ W.heap.size)
    (hK : ∀ v' w', w'.ownsRow B e size v' (n + m) (xs ++ cs.toList) → (W.alloc (.cells cs e)).grownBy w' v.ownBlock → wpList P ops Q rest (a.put o.dst v') w') : wpList P ops Q (o :: rest) a (W.alloc (.cells cs e)) := by
  obtain ⟨i, hi, hz, hsize, hby⟩ : ∃ i, P.info? e = some i ∧ i.zero = some z ∧ i.size = size ∧ i.bytes = bytes := by
    cases h : P.info? e with
    | none => rw [h] at hinfo; cases hinfo
    | some i =>
      rw [h] at hinfo
      simp only [Option.map_some, Option.some.injEq, Prod.mk.injEq] at hinfo
      exact ⟨i, rfl, hinfo.1, hinfo.2.1, hinfo.2.2⟩
  refine wpList_append_own _ hgd s x t ho B e i z size bytes ht hi hz hsize hby hzs hsz v n xs hs (own_alloc' hown _) ⟨W.heap.size, 0, none⟩ m m cs.toList hx (by simpa using hl) ?_ h1 (by unfold maxLen; exact hlen) hbytes (by simp; omega) (fun v' w' h2 h3 _ => hK v' w' h2 h3)
  intro j u hu
  have hadd : ∀ j : Nat, (⟨W.heap.size, 0, none⟩ : Addr).add j = ⟨W.heap.size, j, none⟩ := by
    intro j
    unfold Addr.add
    split
    · rename_i h; subst h; rfl
    · simp
  rw [hadd]
  simp [World.cell?, World.alloc, -World.alloc_eq]
  simpa using hu
theorem grown_alloc {w w' : World} {o : Obj} {row : Option Nat} (h : (w.alloc o).grownBy w' row) : w.grownBy w' row := by
  refine ⟨h.os, h.tape, h.output, Nat.le_trans (by simp) h.size, fun k hk hne => ?_⟩
  rw [h.block k (by simp; omega) hne]; exact Below.heap_alloc _ _ _ hk
theorem own_row_lt {w : World} {base : Nat} {e : TypeId} {size n : Nat} {v : Value} {xs : List Value} (h : w.ownsRow base e size v n xs) : ∀ k, v.ownBlock = some k → k < w.heap.size ∧ base ≤ k := by
  intro k hk
  rcases h.2 with ⟨rfl, _⟩ | ⟨g, cap, cur, rfl, hb, hh, _⟩
  · simp [Value.ownBlock] at hk
  · have : g = k := by simpa [Value.ownBlock] using hk
    subst this
    rcases Nat.lt_or_ge g w.heap.size with h | h
    · exact ⟨h, hb⟩
    · rw [Array.getElem?_eq_none h] at hh; cases hh
theorem own_slice' {w : World} {base n : Nat} {e : TypeId} {size : Nat} {v : Value} {xs : List Value} (h : w.ownsRow base e size v n xs) : ∃ A c, v = .slice A n c := by
  rcases h.2 with ⟨rfl, rfl⟩ | ⟨g, cap, cur, rfl, _⟩
  · exact ⟨none, 0, rfl⟩
  · exact ⟨_, cap, rfl⟩
end
end Go.Proofs.Ytibhjlmffgabgaa.MapInt
end
section
namespace Go.Proofs.Ytibhjlmffgabgaa.MapInt
set_option linter.unusedVariables false
set_option linter.unusedSimpArgs false
open Go.RowKit Go.ChangeMaps
def Blk (w : World) (g : Nat) (e : TypeId) (cs : Array Value) : Prop := w.heap[g]? = some (.cells cs e (0, 0))
section
variable {P : Program} {w w' : World} {g : Nat} {e : TypeId} {cs : Array Value}
theorem Blk.lt (h : Blk w g e cs) : g < w.heap.size := by
  rcases Nat.lt_or_ge g w.heap.size with h1 | h1
  · exact h1
  · rw [Blk, Array.getElem?_eq_none h1] at h; cases h
theorem Blk.made (w : World) (e : TypeId) (cs : Array Value) : Blk (w.alloc (.cells cs e)) w.heap.size e cs := by
  show (w.heap.push _)[w.heap.size]? = _; simp
theorem Blk.kept {row : Option Nat} (h : Blk w g e cs) (hg : w.grownBy w' row) (hne : some g ≠ row) : Blk w' g e cs := by
  unfold Blk; rw [hg.block g h.lt hne]; exact h
theorem Blk.below (h : Blk w g e cs) (hb : Below w.heap.size w w') : Blk w' g e cs := by unfold Blk; rw [hb.block g h.lt]; exact h
theorem Blk.alloc (h : Blk w g e cs) (o : Obj) : Blk (w.alloc o) g e cs := h.below ((Below.refl _ _).alloc (Nat.le_refl _) o)
theorem Blk.cell (h : Blk w g e cs) {o : Nat} {v : Value} (hv : cs[o]? = some v) : w.cell? ⟨g, o, none⟩ = some v := (cell_of_row w g o cs e (0, 0) h).trans hv
theorem Blk.ne_type (h : Blk w g e cs) {g' : Nat} {e' : TypeId} {cs' : Array Value} (h' : Blk w g' e' cs') (hne : e ≠ e') : g ≠ g' := by
  intro e1; subst e1
  unfold Blk at h h'
  rw [h] at h'; injection h' with h'; injection h' with _ h'; exact hne h'
theorem Blk.ne_own (h : Blk w g e cs) {base : Nat} {t : TypeId} {size n : Nat} {v : Value} {xs : List Value} (ho : w.ownsRow base t size v n xs) (hne : t ≠ e) : some g ≠ v.ownBlock := own_ne_cells ho h hne
variable {ops : Array Oper} {rest : List Oper} {o : Oper} {a : Act} {Q : Exit → Act → World → Prop}
theorem run_store_cell {ty : TypeId} (hi : (P.info? ty).map (·.size) = some 1) {q : Nat} {v : Value} (hb : Blk w g e cs) (hq : q < cs.size) (h1 : v.oneCell' = true) : (storeVar ty ⟨g, q, none⟩ v).run P w = .ok () (w.setCell ⟨g, q, none⟩ v) := by
  cases hp : P.info? ty with
  | none => simp [hp] at hi
  | some i =>
    have hs : i.size = 1 := by simpa [hp] using hi
    have hvc : v.cells = #[v] := by cases v <;> first | rfl | (simp [Value.oneCell'] at h1)
    have hcell : w.cell? ⟨g, q, none⟩ = some cs[q] := hb.cell (by simp [hq])
    have hadd : (⟨g, q, none⟩ : Addr).add 0 = ⟨g, q, none⟩ := by unfold Addr.add; split <;> simp_all
    have hfr : w.frozen? ⟨g, q, none⟩ = false := by
      unfold Blk at hb
      simp [World.frozen?, hb]
    simp [storeVar, sizeOf, typeInfo, hp, hs, hvc, storeCells, hadd, run_store P w _ v _ h1, hcell, hfr, Sem.run_bind, Result.andThen]
theorem setCell_blk {q : Nat} {v : Value} (hb : Blk w g e cs) (hq : q < cs.size) : Blk (w.setCell ⟨g, q, none⟩ v) g e (cs.setIfInBounds q v) ∧ w.grownBy (w.setCell ⟨g, q, none⟩ v) (some g) ∧ (w.setCell ⟨g, q, none⟩ v).heap.size = w.heap.size := by
  refine ⟨?_, ⟨rfl, rfl, rfl, by simp [World.setCell], fun k _ hk => Below.heap_setCell w ⟨g, q, none⟩ v k (fun e => hk (by rw [e]))⟩, by simp [World.setCell]⟩
  unfold Blk at *
  simp [World.setCell, Array.getElem?_modify, hb]
theorem cell_store (hg : o.guard = none) (ty : TypeId) (x y : Operand) (hop : o.op = .store ty x y) (hi : (P.info? ty).map (·.size) = some 1) {q : Nat} {v : Value} (hx : a.eval x = .pointer (some ⟨g, q, none⟩)) (hy : a.eval y = v) (h1 : v.oneCell' = true) (hb : Blk w g e cs) (hq : q < cs.size)
    (hK : ∀ w', Blk w' g e (cs.setIfInBounds q v) → w.grownBy w' (some g) → w'.heap.size = w.heap.size → wpList P ops Q rest (a.put o.dst undef) w') : wpList P ops Q (o :: rest) a w := by
  refine wpList_plain hg fun K' hK' => ?_
  unfold Oper.wp execOp
  simp only [hop, hx, hy, Instr.storeAt, Instr.sureAddr, Sem.run_bind, Sem.run_pure, Result.andThen_ok, run_store_cell hi hb hq h1]
  obtain ⟨h1, h2, h3⟩ := setCell_blk (v := v) hb hq
  exact hK' _ _ (hK _ h1 h2 h3)
end
end Go.Proofs.Ytibhjlmffgabgaa.MapInt
end
section
namespace Go.Proofs.Ytibhjlmffgabgaa.MapInt
set_option linter.unusedVariables false
set_option linter.unusedSimpArgs false
open Go.RowKit Go.ChangeMaps
def putL (cs : Array Value) : Nat → List Value → Array Value
  | _, [] => cs
  | o, v :: vs => putL (cs.setIfInBounds o v) (o + 1) vs
theorem putL_at : ∀ (vs : List Value) (cs : Array Value) (o j : Nat), o + vs.length ≤ cs.size → (putL cs o vs)[j]? = if o ≤ j ∧ j < o + vs.length then vs[j - o]? else cs[j]?
  | [], cs, o, j, h => by
    show cs[j]? = _
    rw [if_neg (fun h2 => by
      have h3 := h2.2
      rw [List.length_nil] at h3
      have h4 := h2.1
      omega)]
  | v :: vs, cs, o, j, h => by
    show (putL (cs.setIfInBounds o v) (o + 1) vs)[j]? = _
    simp only [List.length_cons] at h
    rw [putL_at vs _ _ _ (by simp; omega)]
    by_cases h1 : o + 1 ≤ j ∧ j < o + 1 + vs.length
    · rw [if_pos h1, if_pos (by simp; omega), show j - o = (j - (o + 1)) + 1 by omega]; simp
    · rw [if_neg h1]
      by_cases h2 : j = o
      · subst h2
        rw [if_pos (by simp), Nat.sub_self]
        simp [Array.getElem?_setIfInBounds, show j < cs.size by omega]
      · rw [if_neg (by simp; omega), Array.getElem?_setIfInBounds_ne (fun e => h2 e.symm)]
section
variable {P : Program} {w : World} {g : Nat} {e : TypeId}
theorem setCells_blk : ∀ (vs : List Value) (w : World) (cs : Array Value) (o : Nat), Blk w g e cs → o + vs.length ≤ cs.size → Blk (w.setCells g o vs) g e (putL cs o vs) ∧ w.grownBy (w.setCells g o vs) (some g) ∧ (w.setCells g o vs).heap.size = w.heap.size
  | [], w, cs, o, hb, h => ⟨hb, World.grownBy.refl _ _, rfl⟩
  | v :: vs, w, cs, o, hb, h => by
    simp only [List.length_cons] at h
    obtain ⟨h1, h2, h3⟩ := setCell_blk (q := o) (v := v) hb (by omega)
    obtain ⟨i1, i2, i3⟩ := setCells_blk vs (w.setCell ⟨g, o, none⟩ v) _ (o + 1) h1 (by simp; omega)
    exact ⟨i1, h2.trans i2, i3.trans h3⟩
variable {ops : Array Oper} {rest : List Oper} {o : Oper} {a : Act} {Q : Exit → Act → World → Prop} {cs cs' : Array Value}
theorem there_blk (hb : Blk w g e cs) : w.there g 0 cs.size := fun j hj => by
  rw [Nat.zero_add]
  refine ⟨?_, frozen_of_row w g j cs e hb⟩
  rw [cell_of_row w g j cs e (0, 0) hb, Array.getElem?_eq_getElem hj]; rfl
end
end Go.Proofs.Ytibhjlmffgabgaa.MapInt
end
section
namespace Go.Proofs.Ytibhjlmffgabgaa.MapInt
set_option linter.unusedVariables false
set_option linter.unusedSimpArgs false
open Go.RowKit Go.ChangeMaps Go.MapKept Go.WideShapes
open Go.WideElems (Fit rd rg pl rd_key rd_val rg_of other_key)
open Go.Maps (Keyed)
def RG (P : Program) (w : World) (b r n : Nat) (f : Int → Option Int) (left : Int → Bool) (cnt : Nat) : Prop :=
  ∃ (D : DataW Unit) (lf : Lit → Bool), w.ranges P 3 (plainElem P 3) b r n D lf cnt ∧ Tells D f ∧ ∀ k, inR k → lf (.int .i64 k) = left k
section
variable {P : Program} {w w' : World} {b r n cnt : Nat} {f : Int → Option Int} {left : Int → Bool}
theorem RG.map (h : RG P w b r n f left cnt) : IM P w b n f := let ⟨D, lf, h, t, _⟩ := h; ⟨D, h.owns, t⟩
theorem RG.ne (h : RG P w b r n f left cnt) : r ≠ b := let ⟨_, _, h, _⟩ := h; h.ne
theorem RG.lt (h : RG P w b r n f left cnt) : r < w.heap.size := let ⟨_, _, h, _⟩ := h; h.lt
theorem RG.kept {row : Option Nat} (h : RG P w b r n f left cnt) (hg : w.grownBy w' row) (hb' : some b ≠ row) (hr' : some r ≠ row) : RG P w' b r n f left cnt :=
  let ⟨D, lf, h, t, e⟩ := h; ⟨D, lf, h.kept hg hb' hr', t, e⟩
theorem RG.alloc (h : RG P w b r n f left cnt) (o : Obj) : RG P (w.alloc o) b r n f left cnt := let ⟨D, lf, h, t, e⟩ := h; ⟨D, lf, h.alloc o, t, e⟩
theorem RG.iter (h : RG P w b r n f left cnt) : ∃ m s q c, w.heap[r]? = some (.mapIter m s q c) := by
  obtain ⟨D, lf, ⟨es, clock, since, seen, c0, _, _, _, _, hr, _⟩, _⟩ := h
  exact ⟨_, _, _, _, hr⟩
variable (h3 : P.underlying 3 = some (.int .i64))
variable {ops : Array Oper} {rest : List Oper} {o : Oper} {a : Act} {Q : Exit → Act → World → Prop}
include h3
theorem rng (hg : o.guard = none) (m : Operand) (t : TypeId) (hop : o.op = Op.range t m) (ht : P.underlying t = some (.map 3 3)) (hm : a.eval m = .map (some b)) (h : IM P w b n f)
    (hK : ∀ w', (∃ cnt, RG P w' b w.heap.size n f (fun k => (f k).isSome) cnt) → w.grownBy w' none → w'.heap.size = w.heap.size + 1 → wpList P ops Q rest (a.put o.dst (.pointer (some ⟨w.heap.size, 0, none⟩))) w') : wpList P ops Q (o :: rest) a w := by
  obtain ⟨D, ho, t'⟩ := h
  refine wpList_range_own w hg m t hop 3 3 (law h3) ht (plainElem P 3) b n D hm ho (fun w' h1 h2 h3 => hK w' ⟨_, D, _, h1, t', fun k hk => ?_⟩ h2 h3)
  show _ = (f k).isSome
  cases e : f k with
  | none => exact t'.none hk e
  | some v => exact (t'.some hk e).1
theorem nxt (hg : o.guard = none) (it : Operand) (hop : o.op = Op.next it false) (hit : a.eval it = .pointer (some ⟨r, 0, none⟩)) (h : RG P w b r n f left cnt)
    (hDone : (∀ k, inR k → left k = false) → wpList P ops Q rest (a.put o.dst (.tuple #[.bool false])) w)
    (hMore : ∀ (x c : Int) (w' : World) (cnt' : Nat), inR x → left x = true → f x = some c → RG P w' b r n f (fun z => left z && !decide (z = x)) cnt' → cnt' < cnt →
      w.grownBy w' (some r) → w'.heap.size = w.heap.size → (Instr.entry (.pointer (some ⟨r, 0, none⟩))).run P w' = .ok (.tuple #[.int .i64 x, .int .i64 c]) w' → wpList P ops Q rest (a.put o.dst (.tuple #[.bool true, .int .i64 x, .int .i64 c])) w') : wpList P ops Q (o :: rest) a w := by
  obtain ⟨D, lf, hr, t, el⟩ := h
  refine wpList_next_ranges_ii w hg it hop 3 3 .i64 .i64 (law h3) h3 h3 b r n D lf cnt hit hr (fun _ h0 => hDone fun k hk => (el k hk).symm.trans (h0 _)) (fun x c w' cnt' hx hc hl hat hrg hlt hg1 hs1 hen => ?_)
  have hxr := wf_inR hx
  have hkl : WideAt.IsKeyLit (.int .i64 x) := (law h3).key (Maps.keyOf_int_mk h3 (inR_wf hxr))
  refine hMore x c w' cnt' hxr ((el x hxr).symm.trans hl) ?_ ⟨D, _, hrg, t, fun k hk => ?_⟩ hlt hg1 hs1 hen
  · have hat0 := hat (.lit (.int .i64 c))
    cases e : f x with
    | none =>
      exfalso
      have h1 := Maps.atKey_of_not_has (t.none hxr e) (.lit (.int .i64 (if c = 0 then 1 else 0)))
      rw [hat] at h1
      injection h1 with h1; injection h1 with _ h1
      split at h1 <;> omega
    | some v =>
      rw [(t.some hxr e).2.2] at hat0
      injection hat0 with h1; injection h1 with _ h1
      rw [h1]
  · show (lf (.int .i64 k) && !(Lit.int .i64 k).sameKey (.int .i64 x)) = _
    rw [el k hk]
    by_cases e : k = x
    · subst e; rw [WideAt.sameKey_self hkl]; simp
    · rw [Maps.sameKey_ne (fun h => e (by injection h))]; simp [e]
end
end Go.Proofs.Ytibhjlmffgabgaa.MapInt
end
section
namespace Go.Proofs.Ytibhjlmffgabgaa.MapInt
set_option linter.unusedVariables false
set_option linter.unusedSimpArgs false
open Go.RowKit
section
variable {P : Program} {W : World} {ops : Array Oper} {rest : List Oper} {o : Oper} {a : Act} {Q : Exit → Act → World → Prop}
theorem app_new_where (hgd : o.guard = none) (s x : Operand) (t e : TypeId) (z : Value) (size bytes : Nat) (ho : o.op = .call { callee := .builtin .append, args := #[s, x], argTypes := #[t, t] })
    (ht : P.underlying t = some (.slice e)) (hinfo : (P.info? e).map (fun i => (i.zero, i.size, i.bytes)) = some (some z, size, bytes)) (hzs : z.cells.size = size) (hsz : 0 < size)
    {B : Nat} {v : Value} {n : Nat} {xs : List Value} (hs : a.eval s = v) (hown : W.ownsRow B e size v n xs) (cs : Array Value) (m : Nat) {sz : Nat} (hx : a.eval x = .slice (some ⟨sz, 0, none⟩) m m) (hsz' : sz = W.heap.size)
    (hl : cs.size = m * size) (h1 : ∀ u ∈ cs.toList, u.oneCell' = true) (hlen : n + m ≤ 9223372036854775807) (hbytes : (n + m) * bytes ≤ 140737488355328) (hB : B ≤ W.heap.size)
    (hK : ∀ v' w', w'.ownsRow B e size v' (n + m) (xs ++ cs.toList) → (W.alloc (.cells cs e)).grownBy w' v.ownBlock → (v'.ownBlock = v.ownBlock ∨ v'.ownBlock = some (W.heap.size + 1)) → wpList P ops Q rest (a.put o.dst v') w') : wpList P ops Q (o :: rest) a (W.alloc (.cells cs e)) := by
  subst hsz'
  obtain ⟨i, hi, hz, hsize, hby⟩ : ∃ i, P.info? e = some i ∧ i.zero = some z ∧ i.size = size ∧ i.bytes = bytes := by
    cases h : P.info? e with
    | none => rw [h] at hinfo; cases hinfo
    | some i =>
      rw [h] at hinfo
      simp only [Option.map_some, Option.some.injEq, Prod.mk.injEq] at hinfo
      exact ⟨i, rfl, hinfo.1, hinfo.2.1, hinfo.2.2⟩
  refine wpList_append_own_at _ hgd s x t ho B e i z size bytes ht hi hz hsize hby hzs hsz v n xs hs (own_alloc' hown _) ⟨W.heap.size, 0, none⟩ m m cs.toList hx (by simpa using hl) ?_ h1 (by unfold maxLen; exact hlen) hbytes (by simp; omega) (fun v' w' h2 h3 _ h5 => hK v' w' h2 h3 (by simpa using h5))
  intro j u hu
  have hadd : ∀ j : Nat, (⟨W.heap.size, 0, none⟩ : Addr).add j = ⟨W.heap.size, j, none⟩ := by
    intro j
    unfold Addr.add
    split
    · rename_i h; subst h; rfl
    · simp
  rw [hadd]
  simp [World.cell?, World.alloc, -World.alloc_eq]
  simpa using hu
end
end Go.Proofs.Ytibhjlmffgabgaa.MapInt
end
section
namespace Go.Proofs.Ytibhjlmffgabgaa.MapInt
set_option linter.unusedVariables false
set_option linter.unusedSimpArgs false
open Go.RowKit Go.Proofs.YtibhjlmffgabgaaW.PrintWords
section
variable {P : Program} {W : World} {ops : Array Oper} {rest : List Oper} {o : Oper} {a : Act} {Q : Exit → Act → World → Prop}
theorem info_split {e : TypeId} {z : Value} {size bytes : Nat} (hinfo : (P.info? e).map (fun i => (i.zero, i.size, i.bytes)) = some (some z, size, bytes)) : ∃ i, P.info? e = some i ∧ i.zero = some z ∧ i.size = size ∧ i.bytes = bytes := by
  cases h : P.info? e with
  | none => rw [h] at hinfo; cases hinfo
  | some i =>
    rw [h] at hinfo
    simp only [Option.map_some, Option.some.injEq, Prod.mk.injEq] at hinfo
    exact ⟨i, rfl, hinfo.1, hinfo.2.1, hinfo.2.2⟩
theorem q_kept {w w' : World} {base n size : Nat} {e : TypeId} {v : Value} {xs : List Value} {row : Option Nat} (h : QRow w base e size v n xs) (hg : w.grownBy w' row) (hne : ∀ k, v.ownBlock = some k → some k ≠ row) : QRow w' base e size v n xs :=
  q_move h fun k hk => hg.block k (q_lt h k hk) (hne k hk)
theorem q_below {w w' : World} {base n size : Nat} {e : TypeId} {v : Value} {xs : List Value} (h : QRow w base e size v n xs) (hb : Below w.heap.size w w') : QRow w' base e size v n xs :=
  q_move h fun k hk => hb.block k (q_lt h k hk)
theorem q_apart_obj {w : World} {base : Nat} {e : TypeId} {size n g : Nat} {v : Value} {xs : List Value} {o : Obj} (h : QRow w base e size v n xs) (hg : w.heap[g]? = some o) (ho : ∀ cs, o ≠ .cells cs e (0, 0)) : ∀ k, v.ownBlock = some k → some k ≠ some g := by
  intro k hk e
  injection e with e; subst e
  obtain ⟨_, c1, hc1⟩ := q_typed h k hk
  rw [hg] at hc1; injection hc1 with hc1; exact ho c1 hc1
theorem q_app_new (hgd : o.guard = none) (s x : Operand) (t e : TypeId) (z : Value) (size bytes : Nat) (ho : o.op = .call { callee := .builtin .append, args := #[s, x], argTypes := #[t, t] })
    (ht : P.underlying t = some (.slice e)) (hinfo : (P.info? e).map (fun i => (i.zero, i.size, i.bytes)) = some (some z, size, bytes)) (hzs : z.cells.size = size) (hsz : 0 < size)
    {B : Nat} {v : Value} {n : Nat} {xs : List Value} (hs : a.eval s = v) (hown : QRow W B e size v n xs) (cs : Array Value) (m : Nat) (hx : a.eval x = .slice (some ⟨W.heap.size, 0, none⟩) m m)
    (hl : cs.size = m * size) (h1 : ∀ u ∈ cs.toList, u.oneCell' = true) (hm : 0 < m) (hlen : n + m ≤ 9223372036854775807) (hbytes : (n + m) * bytes ≤ 140737488355328) (hB : B ≤ W.heap.size)
    (hK : ∀ v' w', QRow w' B e size v' (n + m) (xs ++ cs.toList) → (W.alloc (.cells cs e)).grownBy w' v.ownBlock → wpList P ops Q rest (a.put o.dst v') w') : wpList P ops Q (o :: rest) a (W.alloc (.cells cs e)) := by
  obtain ⟨i, hi, hz, hsize, hby⟩ := info_split hinfo
  refine wpList_plain hgd fun K' hK' => ?_
  have hadd : ∀ j : Nat, (⟨W.heap.size, 0, none⟩ : Addr).add j = ⟨W.heap.size, j, none⟩ := by
    intro j
    unfold Addr.add
    split
    · rename_i h; subst h; rfl
    · simp
  obtain ⟨v', w', hrun, h2, h3, _⟩ := q_append (P := P) (W.alloc (.cells cs e)) B t o.type e i z size bytes ht hi hz hsize hby hzs hsz v n xs (q_below hown ((Below.refl _ _).alloc (Nat.le_refl _) _)) ⟨W.heap.size, 0, none⟩ m m cs.toList (by simpa using hl)
    (fun j u hu => by
      rw [hadd]
      simp [World.cell?, World.alloc, -World.alloc_eq]
      simpa using hu) h1 hm (by unfold maxLen; exact hlen) hbytes (by simp; omega)
  unfold Oper.wp
  simp [execOp, ho, resolve, invoke, builtin, hs, hx, hrun, Result.andThen]
  exact hK' _ _ (hK v' w' h2 h3)
theorem q_tail (hgd : o.guard = none) (s : Operand) (t e : TypeId) (ho : o.op = .slice t s (some (.const (.int .i64 1))) none none) (ht : P.underlying t = some (.slice e)) {i : TypeInfo} (hi : P.info? e = some i) {size : Nat} (hsz : i.size = size)
    {B : Nat} {v : Value} {n : Nat} {xs : List Value} (hs : a.eval s = v) (h : QRow W B e size v (n + 1) xs)
    (hK : ∀ v', QRow W B e size v' n (xs.drop size) → (∃ A c, v' = .slice A n c) → v'.oneCell' = true → wpList P ops Q rest (a.put o.dst v') W) : wpList P ops Q (o :: rest) a W := by
  obtain ⟨A, c, rfl, hc⟩ := q_slice h
  refine wpList_plain hgd fun K' hK' => ?_
  have hq := q_drop h (k := 1) (by omega)
  have hrun := cut_from (P := P) t e .i64 ht hi size hsz A (n + 1) c 1 (by decide) (by omega) W
  have h1 : (1 : Int).toNat = 1 := rfl
  rw [h1] at hrun
  simp only [Nat.one_mul, Nat.add_sub_cancel] at hq hrun
  have hel : P.underlying t = some (.slice (P.elem t)) := by rw [show P.elem t = e by simp [Program.elem, ht]]; exact ht
  unfold Oper.wp
  simp only [execOp, ho]
  rw [hs]
  simp only [Option.map_some, Option.map_none, Act.eval, Sem.run_bind, run_sliceAt_slice W t _ _ _ _ hel, hrun, Result.andThen]
  exact hK' _ _ (hK _ hq ⟨_, _, rfl⟩ rfl)
end
end Go.Proofs.Ytibhjlmffgabgaa.MapInt
end
