/-
  A map[int]int of the call's own, told as a partial function: made, read, written, struck; what keeps it.
-/
import Derived.Maps.OwnOps
import Derived.Maps.OwnSet
import Derived.Maps.RangeWalk
import Derived.Maps.Views
import Derived.Below
import Derived.Deep.Draws
namespace Go.Proofs.Ytjolnfhgiddafaa.MapInt
set_option linter.unusedVariables false
set_option linter.unusedSimpArgs false
open Go.RowKit Go.ChangeMaps Go.MapKept
open Go.Maps (Keyed)

def inR (x : Int) : Prop := -9223372036854775808 ≤ x ∧ x ≤ 9223372036854775807
theorem inR_wf {x : Int} (h : inR x) : (Lit.int .i64 x).wf = true := by
  obtain ⟨h1, h2⟩ := h
  simp [Lit.wf, IntKind.min, IntKind.max, IntKind.signed, IntKind.bits]; omega
theorem wf_inR {x : Int} (h : (Lit.int .i64 x).wf = true) : inR x := by
  simp [Lit.wf, IntKind.min, IntKind.max, IntKind.signed, IntKind.bits] at h
  unfold inR; omega

/-- A datum that is a map of ints tells the partial function f. -/
def Tells (D : DataW Unit) (f : Int → Option Int) : Prop :=
  ∀ k, inR k → match f k with
    | none => Maps.has D (.int .i64 k) = false
    | some v => Maps.has D (.int .i64 k) = true ∧ inR v ∧ ∀ z, D.atKey (.int .i64 k) z = .lit (.int .i64 v)

theorem Tells.none {D : DataW Unit} {f : Int → Option Int} (h : Tells D f) {k : Int} (hk : inR k) (e : f k = none) : Maps.has D (.int .i64 k) = false := by
  have := h k hk; rw [e] at this; exact this
theorem Tells.some {D : DataW Unit} {f : Int → Option Int} (h : Tells D f) {k v : Int} (hk : inR k) (e : f k = some v) : Maps.has D (.int .i64 k) = true ∧ inR v ∧ ∀ z, D.atKey (.int .i64 k) z = .lit (.int .i64 v) := by
  have := h k hk; rw [e] at this; exact this

/-- Block b of w is a map of at most n ints to ints that tells f. -/
def IM (P : Program) (w : World) (b n : Nat) (f : Int → Option Int) : Prop := ∃ D : DataW Unit, w.ownsMap P 3 (plainElem P 3) b n D ∧ Tells D f

def upd (f : Int → Option Int) (k v : Int) : Int → Option Int := fun x => if x = k then some v else f x
def del (f : Int → Option Int) (k : Int) : Int → Option Int := fun x => if x = k then none else f x

section
variable {P : Program} {w w' : World} {b n : Nat} {f : Int → Option Int}

theorem IM.made (P : Program) (w : World) : IM P (w.alloc (.map #[] 0)) w.heap.size 0 (fun _ => none) :=
  ⟨.map [], World.ownsMap_made _ _ _ _, fun k _ => by simp [Maps.has_eq]⟩
theorem IM.lt (h : IM P w b n f) : b < w.heap.size := let ⟨_, h, _⟩ := h; h.lt
theorem IM.mono (h : IM P w b n f) {n' : Nat} (hn : n ≤ n') : IM P w b n' f := let ⟨D, h, t⟩ := h; ⟨D, h.mono hn, t⟩
theorem IM.kept {row : Option Nat} (h : IM P w b n f) (hg : w.grownBy w' row) (hne : some b ≠ row) : IM P w' b n f := let ⟨D, h, t⟩ := h; ⟨D, h.kept hg hne, t⟩
theorem IM.move (h : IM P w b n f) (hm : w'.heap[b]? = w.heap[b]?) : IM P w' b n f := by
  obtain ⟨D, ⟨es, c, h1, h2⟩, t⟩ := h
  exact ⟨D, ⟨es, c, hm.trans h1, h2⟩, t⟩
theorem IM.below (h : IM P w b n f) (hb : Below w.heap.size w w') : IM P w' b n f := h.move (hb.block b h.lt)
theorem IM.alloc (h : IM P w b n f) (o : Obj) : IM P (w.alloc o) b n f := h.move (Below.heap_alloc w o b h.lt)
theorem IM.drew (h : IM P w b n f) : IM P w.drew b n f := h
theorem IM.drewN (h : IM P w b n f) (m : Nat) : IM P (w.drewN m) b n f := by
  refine h.move ?_
  rfl
theorem IM.setCell (h : IM P w b n f) {a : Addr} (ha : b ≠ a.block) (u : Value) : IM P (w.setCell a u) b n f := let ⟨D, h, t⟩ := h; ⟨D, h.setCell ha u, t⟩
theorem IM.isMap (h : IM P w b n f) : ∃ es c, w.heap[b]? = some (.map es c) := let ⟨_, ⟨es, c, h, _⟩, _⟩ := h; ⟨es, c, h⟩
theorem IM.ne_cells (h : IM P w b n f) {g : Nat} {cs : Array Value} {e : TypeId} {z : Nat × Nat} (hg : w.heap[g]? = some (.cells cs e z)) : b ≠ g := by
  obtain ⟨es, c, h1⟩ := h.isMap
  intro e; subst e; rw [hg] at h1; cases h1
theorem IM.ext {f' : Int → Option Int} (h : IM P w b n f) (he : ∀ k, inR k → f' k = f k) : IM P w b n f' := by
  obtain ⟨D, h, t⟩ := h
  exact ⟨D, h, fun k hk => by rw [he k hk]; exact t k hk⟩

variable (h3 : P.underlying 3 = some (.int .i64))
include h3
theorem law : Keyed P 3 := Maps.int_keyed h3

theorem IM.get (h : IM P w b n f) {t : TypeId} (ht : P.underlying t = some (.map 3 3)) (hz : (zeroValue 3).run P w = .ok (.int .i64 0) w) {x : Int} (hx : inR x) (ty : Bool) :
    (Instr.lookup t (.map (some b)) (.int .i64 x) ty).run P w = .ok (if ty then .tuple #[.int .i64 ((f x).getD 0), .bool (f x).isSome] else .int .i64 ((f x).getD 0)) w := by
  obtain ⟨D, ho, ht'⟩ := h
  have hkey : keyOf P 3 (.int .i64 x) = some (.int .i64 x) := Maps.keyOf_int_mk h3 (inR_wf hx)
  have hat : D.atKey (.int .i64 x) (.lit (.int .i64 0)) = .lit (.int .i64 ((f x).getD 0)) := by
    cases e : f x with
    | none => exact Maps.atKey_of_not_has (ht'.none hx e) _
    | some v => exact (ht'.some hx e).2.2 _
  have hhas : Maps.has D (.int .i64 x) = (f x).isSome := by
    cases e : f x with
    | none => exact ht'.none hx e
    | some v => exact (ht'.some hx e).1
  cases ty with
  | false =>
    obtain ⟨c, hrun, h1, _⟩ := ho.lookup_int (law h3) ht h3 hz hkey
    rw [hat] at h1
    have : c = (f x).getD 0 := by injection h1 with h1; injection h1 with _ h1; exact h1.symm
    subst this; exact hrun
  | true =>
    obtain ⟨v, ps, hrun, hv⟩ := ho.look_ok (law h3) ht hz (plainElem_int h3 (by decide) : plainElem (H := Unit) P 3 (.int .i64 0) = some (.lit (.int .i64 0), [])) hkey
    obtain ⟨c, rfl, hc, _⟩ := plainElem_int_inv h3 hv
    have h1 := congrArg Prod.fst hc
    simp only at h1
    rw [hat] at h1
    have : c = (f x).getD 0 := by injection h1 with h1; injection h1 with _ h1; exact h1.symm
    subst this; rw [hhas] at hrun; exact hrun

omit h3 in
theorem tells_put {P : Program} (h3 : P.underlying 3 = some (.int .i64)) {D : DataW Unit} (t : Tells D f) (hD : Maps.IsMap D) {x v : Int} (hx : inR x) (hv : inR v) : Tells (D.put (.int .i64 x) (.lit (.int .i64 v))) (upd f x v) := by
  have hkey : keyOf P 3 (.int .i64 x) = some (.int .i64 x) := Maps.keyOf_int_mk h3 (inR_wf hx)
  have hk : WideAt.IsKeyLit (.int .i64 x) := (law h3).key hkey
  intro k hkr
  unfold upd
  by_cases e : k = x
  · subst e
    rw [if_pos rfl]
    exact ⟨Maps.has_put_same hD hk _, hv, fun z => Maps.atKey_put_same hD hk _ _⟩
  · rw [if_neg e]
    have hne : (Lit.int .i64 k) ≠ .int .i64 x := fun h => e (by injection h)
    have := t k hkr
    split
    · rename_i e1
      rw [e1] at this
      rw [Maps.has_put_other hne]; exact this
    · rename_i v' e1
      rw [e1] at this
      exact ⟨by rw [Maps.has_put_other hne]; exact this.1, this.2.1, fun z => by rw [Maps.atKey_put_other hne]; exact this.2.2 z⟩

omit h3 in
theorem tells_del {D : DataW Unit} (t : Tells D f) (x : Int) : Tells (D.del (.int .i64 x)) (del f x) := by
  intro k hkr
  unfold MapInt.del
  by_cases e : k = x
  · subst e
    rw [if_pos rfl]
    exact Maps.has_del_same
  · rw [if_neg e]
    have hne : (Lit.int .i64 k) ≠ .int .i64 x := fun h => e (by injection h)
    have := t k hkr
    split
    · rename_i e1
      rw [e1] at this
      rw [Maps.has_del_other hne]; exact this
    · rename_i v' e1
      rw [e1] at this
      exact ⟨by rw [Maps.has_del_other hne]; exact this.1, this.2.1, fun z => by rw [Maps.atKey_del_other hne]; exact this.2.2 z⟩

variable {ops : Array Oper} {rest : List Oper} {o : Oper} {a : Act} {Q : Exit → Act → World → Prop}

/-- 'm[x]' at the operation. -/
theorem look (hg : o.guard = none) (m x : Operand) (t : TypeId) (hop : o.op = Op.lookup t m x false) (ht : P.underlying t = some (.map 3 3)) (hz : (zeroValue 3).run P w = .ok (.int .i64 0) w)
    (hm : a.eval m = .map (some b)) (h : IM P w b n f) {kx : Int} (hx : a.eval x = .int .i64 kx) (hr : inR kx)
    (hK : wpList P ops Q rest (a.put o.dst (.int .i64 ((f kx).getD 0))) w) : wpList P ops Q (o :: rest) a w := by
  refine wpList_plain hg fun K' hK' => ?_
  have hrun := h.get h3 ht hz hr false
  unfold Oper.wp
  simp [execOp, hop, hm, hx, hrun, Result.andThen]
  exact hK' _ _ hK

/-- 'v, ok := m[x]' at the operation. -/
theorem look_ok (hg : o.guard = none) (m x : Operand) (t : TypeId) (hop : o.op = Op.lookup t m x true) (ht : P.underlying t = some (.map 3 3)) (hz : (zeroValue 3).run P w = .ok (.int .i64 0) w)
    (hm : a.eval m = .map (some b)) (h : IM P w b n f) {kx : Int} (hx : a.eval x = .int .i64 kx) (hr : inR kx)
    (hK : wpList P ops Q rest (a.put o.dst (.tuple #[.int .i64 ((f kx).getD 0), .bool (f kx).isSome])) w) : wpList P ops Q (o :: rest) a w := by
  refine wpList_plain hg fun K' hK' => ?_
  have hrun := h.get h3 ht hz hr true
  unfold Oper.wp
  simp [execOp, hop, hm, hx, hrun, Result.andThen]
  exact hK' _ _ hK

/-- 'm[x]' at the operation, its value told ahead. -/
theorem lookv (hg : o.guard = none) (m x : Operand) (t : TypeId) (hop : o.op = Op.lookup t m x false) (ht : P.underlying t = some (.map 3 3)) (hz : (zeroValue 3).run P w = .ok (.int .i64 0) w)
    (hm : a.eval m = .map (some b)) (h : IM P w b n f) {kx : Int} (hx : a.eval x = .int .i64 kx) (hr : inR kx) {v : Int} (hv : (f kx).getD 0 = v)
    (hK : wpList P ops Q rest (a.put o.dst (.int .i64 v)) w) : wpList P ops Q (o :: rest) a w := by
  subst hv; exact look h3 hg m x t hop ht hz hm h hx hr hK
/-- 'v, ok := m[x]' at the operation, whether it is there told ahead. -/
theorem lookv_ok (hg : o.guard = none) (m x : Operand) (t : TypeId) (hop : o.op = Op.lookup t m x true) (ht : P.underlying t = some (.map 3 3)) (hz : (zeroValue 3).run P w = .ok (.int .i64 0) w)
    (hm : a.eval m = .map (some b)) (h : IM P w b n f) {kx : Int} (hx : a.eval x = .int .i64 kx) (hr : inR kx) {v : Bool} (hv : (f kx).isSome = v)
    (hK : wpList P ops Q rest (a.put o.dst (.tuple #[.int .i64 ((f kx).getD 0), .bool v])) w) : wpList P ops Q (o :: rest) a w := by
  subst hv; exact look_ok h3 hg m x t hop ht hz hm h hx hr hK

theorem lookv_ok' (hg : o.guard = none) (m x : Operand) (t : TypeId) (hop : o.op = Op.lookup t m x true) (ht : P.underlying t = some (.map 3 3)) (hz : (zeroValue 3).run P w = .ok (.int .i64 0) w)
    (hm : a.eval m = .map (some b)) (h : IM P w b n f) {kx : Int} (hx : a.eval x = .int .i64 kx) (hr : inR kx) {c : Int} {v : Bool} (hc : (f kx).getD 0 = c) (hv : (f kx).isSome = v)
    (hK : wpList P ops Q rest (a.put o.dst (.tuple #[.int .i64 c, .bool v])) w) : wpList P ops Q (o :: rest) a w := by
  subst hv; subst hc; exact look_ok h3 hg m x t hop ht hz hm h hx hr hK

/-- 'm[x] = v' at the operation. -/
theorem store (hg : o.guard = none) (m x v : Operand) (t : TypeId) (hop : o.op = Op.mapUpdate t m x v) (ht : P.underlying t = some (.map 3 3))
    (hm : a.eval m = .map (some b)) (h : IM P w b n f) (hn : n < 9223372036854775807) {kx vx : Int} (hx : a.eval x = .int .i64 kx) (hv : a.eval v = .int .i64 vx) (hr : inR kx) (hrv : inR vx)
    (hK : ∀ w', IM P w' b (n + 1) (upd f kx vx) → w.grownBy w' (some b) → w'.heap.size = w.heap.size → wpList P ops Q rest (a.put o.dst undef) w') : wpList P ops Q (o :: rest) a w := by
  refine wpList_plain hg fun K' hK' => ?_
  obtain ⟨D, ho, ht'⟩ := h
  have hkey : keyOf P 3 (.int .i64 kx) = some (.int .i64 kx) := Maps.keyOf_int_mk h3 (inR_wf hr)
  obtain ⟨w', hrun, r1, r2⟩ := ho.store (law h3) ht (by unfold maxLen; exact hn) hkey (plainElem_int h3 (inR_wf hrv) : plainElem (H := Unit) P 3 (.int .i64 vx) = some (.lit (.int .i64 vx), []))
  have hsz : w'.heap.size = w.heap.size := by obtain ⟨es, c, es', c', _, rfl⟩ := r2; simp [setBlock]
  unfold Oper.wp
  simp [execOp, hop, hm, hx, hv, hrun, Result.andThen]
  exact hK' _ _ (hK w' ⟨_, r1, tells_put h3 ht' ho.isMap hr hrv⟩ r2.grown hsz)

/-- 'delete(m, x)' at the operation. -/
theorem drop (hg : o.guard = none) (m x : Operand) (t : TypeId) (hop : o.op = Op.call { callee := Callee.builtin Builtin.delete, args := #[m, x], argTypes := #[t, 3] }) (ht : P.underlying t = some (.map 3 3))
    (hm : a.eval m = .map (some b)) (h : IM P w b n f) {kx : Int} (hx : a.eval x = .int .i64 kx) (hr : inR kx)
    (hK : ∀ w', IM P w' b n (del f kx) → w.grownBy w' (some b) → w'.heap.size = w.heap.size → wpList P ops Q rest (a.put o.dst (.tuple #[])) w') : wpList P ops Q (o :: rest) a w := by
  refine wpList_plain hg fun K' hK' => ?_
  obtain ⟨D, ho, ht'⟩ := h
  have hkey : keyOf P 3 (.int .i64 kx) = some (.int .i64 kx) := Maps.keyOf_int_mk h3 (inR_wf hr)
  obtain ⟨w', hrun, r1, r2⟩ := ho.drop (law h3) ht hkey o.type
  have hsz : w'.heap.size = w.heap.size := by obtain ⟨es, c, es', c', _, rfl⟩ := r2; simp [setBlock]
  unfold Oper.wp
  simp [execOp, hop, resolve, invoke, builtin, hm, hx, hrun, Result.andThen]
  exact hK' _ _ (hK w' ⟨_, r1, tells_del ht' kx⟩ r2.grown hsz)

end
end Go.Proofs.Ytjolnfhgiddafaa.MapInt
