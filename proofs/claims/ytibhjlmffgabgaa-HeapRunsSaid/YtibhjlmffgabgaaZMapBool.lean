import Derived.Test.YtibhjlmffgabgaaZG1
namespace Go.Proofs.Ytibhjlmffgabgaa.MapInt
set_option linter.unusedVariables false
set_option linter.unusedSimpArgs false
open Go.RowKit Go.ChangeMaps Go.MapKept
open Go.Maps (Keyed)
def TellsB (D : DataW Unit) (S : Int → Bool) : Prop :=
  ∀ k, inR k → Maps.has D (.int .i64 k) = S k ∧ (S k = true → ∀ z, D.atKey (.int .i64 k) z = .lit (.bool true))
def BM (P : Program) (w : World) (b n : Nat) (S : Int → Bool) : Prop := ∃ D : DataW Unit, w.ownsMap P 3 (plainElem P 4) b n D ∧ TellsB D S
def ins (S : Int → Bool) (k : Int) : Int → Bool := fun x => if x = k then true else S x
section
variable {P : Program} {w w' : World} {b n : Nat} {S : Int → Bool}
theorem BM.made (P : Program) (w : World) : BM P (w.alloc (.map #[] 0)) w.heap.size 0 (fun _ => false) :=
  ⟨.map [], World.ownsMap_made _ _ _ _, fun k _ => ⟨by simp [Maps.has_eq], fun h => by cases h⟩⟩
theorem BM.lt (h : BM P w b n S) : b < w.heap.size := let ⟨_, h, _⟩ := h; h.lt
theorem BM.mono (h : BM P w b n S) {n' : Nat} (hn : n ≤ n') : BM P w b n' S := let ⟨D, h, t⟩ := h; ⟨D, h.mono hn, t⟩
theorem BM.kept {row : Option Nat} (h : BM P w b n S) (hg : w.grownBy w' row) (hne : some b ≠ row) : BM P w' b n S := let ⟨D, h, t⟩ := h; ⟨D, h.kept hg hne, t⟩
theorem BM.move (h : BM P w b n S) (hm : w'.heap[b]? = w.heap[b]?) : BM P w' b n S := by
  obtain ⟨D, ⟨es, c, h1, h2⟩, t⟩ := h
  exact ⟨D, ⟨es, c, hm.trans h1, h2⟩, t⟩
theorem BM.below (h : BM P w b n S) (hb : Below w.heap.size w w') : BM P w' b n S := h.move (hb.block b h.lt)
theorem BM.isMap (h : BM P w b n S) : ∃ es c, w.heap[b]? = some (.map es c) := let ⟨_, ⟨es, c, h, _⟩, _⟩ := h; ⟨es, c, h⟩
theorem BM.ne_cells (h : BM P w b n S) {g : Nat} {cs : Array Value} {e : TypeId} {z : Nat × Nat} (hg : w.heap[g]? = some (.cells cs e z)) : b ≠ g := by
  obtain ⟨es, c, h1⟩ := h.isMap
  intro e; subst e; rw [hg] at h1; cases h1
variable (h3 : P.underlying 3 = some (.int .i64)) (h4 : P.underlying 4 = some .bool)
theorem tellsB_put {P : Program} (h3 : P.underlying 3 = some (.int .i64)) {D : DataW Unit} {S : Int → Bool} (t : TellsB D S) (hD : Maps.IsMap D) {x : Int} (hx : inR x) : TellsB (D.put (.int .i64 x) (.lit (.bool true))) (ins S x) := by
  have hkey : keyOf P 3 (.int .i64 x) = some (.int .i64 x) := Maps.keyOf_int_mk h3 (inR_wf hx)
  have hk : WideAt.IsKeyLit (.int .i64 x) := (law h3).key hkey
  intro k hkr
  unfold ins
  by_cases e : k = x
  · subst e
    rw [if_pos rfl]
    exact ⟨Maps.has_put_same hD hk _, fun _ z => Maps.atKey_put_same hD hk _ _⟩
  · rw [if_neg e]
    have hne : (Lit.int .i64 k) ≠ .int .i64 x := fun h => e (by injection h)
    exact ⟨by rw [Maps.has_put_other hne]; exact (t k hkr).1, fun h z => by rw [Maps.atKey_put_other hne]; exact (t k hkr).2 h z⟩
theorem bool_inv {v : Value} {z : DataW Unit × List MemPlace} (h4 : P.underlying 4 = some .bool) (h : plainElem P 4 v = some z) : ∃ c, v = .bool c ∧ z = (.lit (.bool c), []) := by
  unfold plainElem at h
  rw [h4] at h
  cases v <;> simp at h
  exact ⟨_, rfl, h.symm⟩
include h3 h4
theorem BM.get (h : BM P w b n S) {t : TypeId} (ht : P.underlying t = some (.map 3 4)) (hz : (zeroValue 4).run P w = .ok (.bool false) w) {x : Int} (hx : inR x) :
    (Instr.lookup t (.map (some b)) (.int .i64 x) false).run P w = .ok (.bool (S x)) w := by
  obtain ⟨D, ho, ht'⟩ := h
  have hkey : keyOf P 3 (.int .i64 x) = some (.int .i64 x) := Maps.keyOf_int_mk h3 (inR_wf hx)
  obtain ⟨v, ps, hrun, hv⟩ := ho.lookup (law h3) ht hz (plainElem_bool h4 false) hkey
  obtain ⟨c, rfl, hc⟩ := bool_inv h4 hv
  have h1 := congrArg Prod.fst hc
  simp only at h1
  have : c = S x := by
    cases e : S x with
    | false =>
      rw [Maps.atKey_of_not_has (by rw [(ht' x hx).1, e])] at h1
      injection h1 with h1; injection h1 with h1; exact h1.symm
    | true =>
      rw [(ht' x hx).2 e] at h1
      injection h1 with h1; injection h1 with h1; exact h1.symm
  rw [← this]; exact hrun
variable {ops : Array Oper} {rest : List Oper} {o : Oper} {a : Act} {Q : Exit → Act → World → Prop}
theorem blook (hg : o.guard = none) (m x : Operand) (t : TypeId) (hop : o.op = Op.lookup t m x false) (ht : P.underlying t = some (.map 3 4)) (hz : (zeroValue 4).run P w = .ok (.bool false) w)
    (hm : a.eval m = .map (some b)) (h : BM P w b n S) {kx : Int} (hx : a.eval x = .int .i64 kx) (hr : inR kx) {v : Bool} (hv : S kx = v)
    (hK : wpList P ops Q rest (a.put o.dst (.bool v)) w) : wpList P ops Q (o :: rest) a w := by
  subst hv
  refine wpList_plain hg fun K' hK' => ?_
  have hrun := h.get h3 h4 ht hz hr
  unfold Oper.wp
  simp [execOp, hop, hm, hx, hrun, Result.andThen]
  exact hK' _ _ hK
theorem bstore (hg : o.guard = none) (m x v : Operand) (t : TypeId) (hop : o.op = Op.mapUpdate t m x v) (ht : P.underlying t = some (.map 3 4))
    (hm : a.eval m = .map (some b)) (h : BM P w b n S) (hn : n < 9223372036854775807) {kx : Int} (hx : a.eval x = .int .i64 kx) (hv : a.eval v = .bool true) (hr : inR kx)
    (hK : ∀ w', BM P w' b (n + 1) (ins S kx) → w.grownBy w' (some b) → w'.heap.size = w.heap.size → wpList P ops Q rest (a.put o.dst undef) w') : wpList P ops Q (o :: rest) a w := by
  refine wpList_plain hg fun K' hK' => ?_
  obtain ⟨D, ho, ht'⟩ := h
  have hkey : keyOf P 3 (.int .i64 kx) = some (.int .i64 kx) := Maps.keyOf_int_mk h3 (inR_wf hr)
  obtain ⟨w', hrun, r1, r2⟩ := ho.store (law h3) ht (by unfold maxLen; exact hn) hkey (plainElem_bool h4 true)
  have hsz : w'.heap.size = w.heap.size := by obtain ⟨es, c, es', c', _, rfl⟩ := r2; simp [setBlock]
  unfold Oper.wp
  simp [execOp, hop, hm, hx, hv, hrun, Result.andThen]
  exact hK' _ _ (hK w' ⟨_, r1, tellsB_put h3 ht' ho.isMap hr⟩ r2.grown hsz)
end
end Go.Proofs.Ytibhjlmffgabgaa.MapInt
