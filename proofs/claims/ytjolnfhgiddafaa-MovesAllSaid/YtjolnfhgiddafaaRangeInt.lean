/-
  'for k, v := range m' over a map[int]int of the call's own, told as a partial function: the steps, a delete and a store at a key that is there.
-/
import Derived.Test.YtjolnfhgiddafaaMapInt
namespace Go.Proofs.Ytjolnfhgiddafaa.MapInt
set_option linter.unusedVariables false
set_option linter.unusedSimpArgs false
open Go.RowKit Go.ChangeMaps Go.MapKept Go.WideShapes
open Go.WideElems (Fit rd rg pl rd_key rd_val rg_of other_key)
open Go.Maps (Keyed)

/-- Block r ranges over the map in block b, which tells f; left k: whether key k is still to come. -/
def RG (P : Program) (w : World) (b r n : Nat) (f : Int → Option Int) (left : Int → Bool) (cnt : Nat) : Prop :=
  ∃ (D : DataW Unit) (lf : Lit → Bool), w.ranges P 3 (plainElem P 3) b r n D lf cnt ∧ Tells D f ∧ ∀ k, inR k → lf (.int .i64 k) = left k

section
variable {P : Program} {w w' : World} {b r n cnt : Nat} {f : Int → Option Int} {left : Int → Bool}
theorem RG.map (h : RG P w b r n f left cnt) : IM P w b n f := let ⟨D, lf, h, t, _⟩ := h; ⟨D, h.owns, t⟩
theorem RG.left_eq (h : RG P w b r n f left cnt) : w.rangeLeft b r = cnt := let ⟨_, _, h, _⟩ := h; h.left_eq
theorem RG.ne (h : RG P w b r n f left cnt) : r ≠ b := let ⟨_, _, h, _⟩ := h; h.ne
theorem RG.lt (h : RG P w b r n f left cnt) : r < w.heap.size := let ⟨_, _, h, _⟩ := h; h.lt
theorem RG.kept {row : Option Nat} (h : RG P w b r n f left cnt) (hg : w.grownBy w' row) (hb' : some b ≠ row) (hr' : some r ≠ row) : RG P w' b r n f left cnt :=
  let ⟨D, lf, h, t, e⟩ := h; ⟨D, lf, h.kept hg hb' hr', t, e⟩
theorem RG.alloc (h : RG P w b r n f left cnt) (o : Obj) : RG P (w.alloc o) b r n f left cnt := let ⟨D, lf, h, t, e⟩ := h; ⟨D, lf, h.alloc o, t, e⟩
theorem RG.iter (h : RG P w b r n f left cnt) : ∃ m s q c, w.heap[r]? = some (.mapIter m s q c) := by
  obtain ⟨D, lf, ⟨es, clock, since, seen, c0, _, _, _, _, hr, _⟩, _⟩ := h
  exact ⟨_, _, _, _, hr⟩

variable (h3 : P.underlying 3 = some (.int .i64))
variable {ops : Array Oper} {rest : List Oper} {o : Oper} {a : Act} {Q : Exit → Act → World → Prop}
include h3

/-- 'range m' at the operation. -/
theorem rng (hg : o.guard = none) (m : Operand) (t : TypeId) (hop : o.op = Op.range t m) (ht : P.underlying t = some (.map 3 3)) (hm : a.eval m = .map (some b)) (h : IM P w b n f)
    (hK : ∀ w', (∃ cnt, RG P w' b w.heap.size n f (fun k => (f k).isSome) cnt) → w.grownBy w' none → w'.heap.size = w.heap.size + 1 → wpList P ops Q rest (a.put o.dst (.pointer (some ⟨w.heap.size, 0, none⟩))) w') : wpList P ops Q (o :: rest) a w := by
  obtain ⟨D, ho, t'⟩ := h
  refine wpList_range_own w hg m t hop 3 3 (law h3) ht (plainElem P 3) b n D hm ho (fun w' h1 h2 h3 => hK w' ⟨_, D, _, h1, t', fun k hk => ?_⟩ h2 h3)
  show _ = (f k).isSome
  cases e : f k with
  | none => exact t'.none hk e
  | some v => exact (t'.some hk e).1

/-- the step. -/
theorem nxt (hg : o.guard = none) (it : Operand) (hop : o.op = Op.next it false) (hit : a.eval it = .pointer (some ⟨r, 0, none⟩)) (h : RG P w b r n f left cnt)
    (hDone : (∀ k, inR k → left k = false) → wpList P ops Q rest (a.put o.dst (.tuple #[.bool false])) w)
    (hMore : ∀ (x c : Int) (w' : World) (cnt' : Nat), inR x → left x = true → f x = some c → RG P w' b r n f (fun z => left z && !decide (z = x)) cnt' → cnt' < cnt →
      w.grownBy w' (some r) → w'.heap.size = w.heap.size → (Instr.entry (.pointer (some ⟨r, 0, none⟩))).run P w' = .ok (.tuple #[.int .i64 x, .int .i64 c]) w' → wpList P ops Q rest (a.put o.dst (.tuple #[.bool true, .int .i64 x, .int .i64 c])) w') : wpList P ops Q (o :: rest) a w := by
  obtain ⟨D, lf, hr, t, el⟩ := h
  refine wpList_next_ranges_ii w hg it hop 3 3 .i64 .i64 (law h3) h3 h3 b r n D lf cnt hit hr (fun _ h0 => hDone fun k hk => (el k hk).symm.trans (h0 _)) (fun x c w' cnt' hx hc hl hat hrg hlt hg1 hs1 hen => ?_)
  have hxr := wf_inR hx
  have hkl : WideAt.IsKeyLit (.int .i64 x) := (law h3).key (Maps.keyOf_int_mk h3 (inR_wf hxr))
  refine hMore x c w' cnt' hxr ((el x hxr).symm.trans hl) ?_ ⟨D, _, hrg, t, fun k hk => ?_⟩ hlt hg1 hs1 hen
  · have hat0 := hat (.lit (.int .i64 c))
    cases e : f x with
    | none =>
      exfalso
      have h1 := Maps.atKey_of_not_has (t.none hxr e) (.lit (.int .i64 (if c = 0 then 1 else 0)))
      rw [hat] at h1
      injection h1 with h1; injection h1 with _ h1
      split at h1 <;> omega
    | some v =>
      rw [(t.some hxr e).2.2] at hat0
      injection hat0 with h1; injection h1 with _ h1
      rw [h1]
  · show (lf (.int .i64 k) && !(Lit.int .i64 k).sameKey (.int .i64 x)) = _
    rw [el k hk]
    by_cases e : k = x
    · subst e; rw [WideAt.sameKey_self hkl]; simp
    · rw [Maps.sameKey_ne (fun h => e (by injection h))]; simp [e]

/-- 'delete(m, x)' in the round. -/
theorem rdrop (hg : o.guard = none) (m x : Operand) (t : TypeId) (hop : o.op = Op.call { callee := Callee.builtin Builtin.delete, args := #[m, x], argTypes := #[t, 3] }) (ht : P.underlying t = some (.map 3 3))
    (hm : a.eval m = .map (some b)) (h : RG P w b r n f left cnt) {kx : Int} (hx : a.eval x = .int .i64 kx) (hr : inR kx)
    (hK : ∀ w' cnt', RG P w' b r n (del f kx) (fun z => left z && !decide (z = kx)) cnt' → cnt' ≤ cnt → w.grownBy w' (some b) → w'.heap.size = w.heap.size → wpList P ops Q rest (a.put o.dst (.tuple #[])) w') : wpList P ops Q (o :: rest) a w := by
  obtain ⟨D, lf, hrg, t', el⟩ := h
  have hkl : WideAt.IsKeyLit (.int .i64 kx) := (law h3).key (Maps.keyOf_int_mk h3 (inR_wf hr))
  refine wpList_delete_ranges w hg m x t 3 hop 3 (law h3) ht (plainElem P 3) b r n D lf cnt hm hrg (.int .i64 kx) (.int .i64 kx) hx (Maps.keyOf_int_mk h3 (inR_wf hr)) (fun w' cnt' h1 h2 r2 => hK w' cnt' ⟨_, _, h1, tells_del t' kx, fun k hk => ?_⟩ h2 r2.grown (by obtain ⟨es, c, es', c', _, rfl⟩ := r2; simp [setBlock]))
  show (lf (.int .i64 k) && !(Lit.int .i64 k).sameKey (.int .i64 kx)) = _
  rw [el k hk]
  by_cases e : k = kx
  · subst e; rw [WideAt.sameKey_self hkl]; simp
  · rw [Maps.sameKey_ne (fun h => e (by injection h))]; simp [e]

omit h3 in
theorem left_modify (es : Array MapEntry) (seen : Array Nat) (j : Nat) (g : MapEntry → MapEntry) (hgb : ∀ e, (g e).born = e.born) : (leftOf (es.modify j g) seen).size = (leftOf es seen).size := by
  have key : ∀ a : Array MapEntry, (leftOf a seen).size = ((a.toList.map (·.born)).filter fun k => !seen.contains k).length := fun a => by
    unfold leftOf
    rw [← Array.length_toList, Array.toList_filter, List.filter_map, List.length_map]
    rfl
  rw [key, key]
  congr 2
  apply List.ext_getElem?
  intro i
  simp only [Array.toList_modify, List.getElem?_map, List.getElem?_modify]
  split
  · cases es.toList[i]? <;> simp [hgb]
  · cases es.toList[i]? <;> simp

/-- 'm[x] = v' in the round, at a key that is there. -/
theorem rstore (hg : o.guard = none) (m x v : Operand) (t : TypeId) (hop : o.op = Op.mapUpdate t m x v) (ht : P.underlying t = some (.map 3 3))
    (hm : a.eval m = .map (some b)) (h : RG P w b r n f left cnt) (hn : n < 9223372036854775807) {kx vx : Int} (hx : a.eval x = .int .i64 kx) (hv : a.eval v = .int .i64 vx) (hr : inR kx) (hrv : inR vx) (hin : (f kx).isSome = true)
    (hK : ∀ w', RG P w' b r n (upd f kx vx) left cnt → w.grownBy w' (some b) → w'.heap.size = w.heap.size → wpList P ops Q rest (a.put o.dst undef) w') : wpList P ops Q (o :: rest) a w := by
  refine wpList_plain hg fun K' hK' => ?_
  have hne := h.ne
  obtain ⟨D, lf, hrg, t', el⟩ := h
  have hD := hrg.owns.isMap
  obtain ⟨es, clock, since, seen, c0, hb, F, hs, hDe, hri, hold, hc, hl1, hl2, hsc, hsk⟩ := hrg
  have hkey : keyOf P 3 (.int .i64 kx) = some (.int .i64 kx) := Maps.keyOf_int_mk h3 (inR_wf hr)
  have hval : plainElem (H := Unit) P 3 (.int .i64 vx) = some (.lit (.int .i64 vx), []) := plainElem_int h3 (inR_wf hrv)
  obtain ⟨es', clock', hrun, F', hput, _, _, hwho⟩ := Maps.fit_store (R' := plainElem P 3) (law h3) ht hb F (by unfold maxLen; omega) (fun _ _ _ _ hz => hz) hkey hval
  have hfind : ∃ j e0, es.toList[j]? = some e0 ∧ e0.key = .int .i64 kx ∧ es' = es.modify j (fun e' => { e' with key := .int .i64 kx, val := .int .i64 vx }) ∧ clock' = clock := by
    rcases (law h3).find w hkey es.toList F.keys with ⟨h1, h2⟩ | ⟨j, e0, h1, h2, h3'⟩
    · exfalso
      cases e : f kx with
      | none => rw [e] at hin; cases hin
      | some v0 =>
        have := (t'.some hr e).1
        rw [hDe] at this
        obtain ⟨p, hp, hpk⟩ := List.any_eq_true.1 this
        obtain ⟨y, hy, rfl⟩ := List.mem_map.1 (mem_sorted.1 hp)
        obtain ⟨z, hz⟩ := F.reads y hy
        have m1 := rd_key hz
        rw [rg_of hz] at hpk
        rw [WideAt.sameKey_eq hpk] at m1
        exact h2 y hy ((law h3).inj m1 hkey)
    · have hj : es[j]? = some e0 := by simpa using h2
      have hrun2 : (Instr.mapUpdate t (.map (some b)) (.int .i64 kx) (.int .i64 vx)).run P w = .ok () (setBlock w b (.map (es.modify j (fun e' => { e' with key := .int .i64 kx, val := .int .i64 vx })) clock)) := by
        simp [Instr.mapUpdate, run_underlying ht, MapKept.run_getObj_map hb, (law h3).check w false hkey, h1, hj, h3', (law h3).stays w hkey, MapKept.run_setObj_map _ hb, Result.andThen, setBlock]
      rw [hrun] at hrun2
      injection hrun2 with _ hw
      have h5 := congrArg (fun W : World => W.heap[b]?) hw
      rw [heap_setBlock_same hb, heap_setBlock_same hb] at h5
      injection h5 with h5; injection h5 with h5 h6
      exact ⟨j, e0, h2, h3', h5, h6⟩
  obtain ⟨j, e0, hj, he0, rfl, rfl⟩ := hfind
  have hm0 : e0 ∈ es.toList := List.mem_of_getElem? hj
  have hnew : ∀ x' ∈ (es.modify j (fun e' => { e' with key := .int .i64 kx, val := .int .i64 vx })).toList, (x' ∈ es.toList ∧ x'.key ≠ .int .i64 kx) ∨ (x'.key = .int .i64 kx ∧ x'.born = e0.born ∧ x'.val = .int .i64 vx) := by
    intro x' hx'
    rcases hwho x' hx' with h | ⟨h1, h2⟩
    · exact .inl h
    · by_cases ho' : x' ∈ es.toList ∧ x'.key ≠ .int .i64 kx
      · exact .inl ho'
      · refine .inr ⟨h1, ?_, h2⟩
        rw [Array.toList_modify] at hx'
        obtain ⟨i, hi⟩ := List.getElem?_of_mem hx'
        rw [List.getElem?_modify] at hi
        by_cases hij : j = i
        · subst hij
          rw [hj] at hi
          simp at hi
          rw [← hi]
        · cases e : es.toList[i]? with
          | none => rw [e] at hi; simp at hi
          | some y =>
            rw [e] at hi
            simp [hij] at hi
            subst hi
            exfalso
            exact other_key F hj e (fun e => hij e.symm) (h1.trans he0.symm)
  have hsz : (setBlock w b (.map (es.modify j (fun e' => { e' with key := .int .i64 kx, val := .int .i64 vx })) clock')).heap.size = w.heap.size := by simp [setBlock]
  have h0rg : ∀ x ∈ es.toList, ∃ y, keyOf P 3 x.key = some (rg P 3 (plainElem (H := Unit) P 3) x).1 ∧ y = (rg P 3 (plainElem (H := Unit) P 3) x) := fun x hx => by
    obtain ⟨y, hy⟩ := F.reads x hx
    exact ⟨_, by rw [rg_of hy]; exact rd_key hy, rfl⟩
  have h1rg : ∀ x ∈ (es.modify j (fun e' => { e' with key := .int .i64 kx, val := .int .i64 vx })).toList, keyOf P 3 x.key = some (rg P 3 (plainElem (H := Unit) P 3) x).1 := fun x hx => by
    obtain ⟨y, hy⟩ := F'.reads x hx
    rw [rg_of hy]; exact rd_key hy
  have hk0 : (rg P 3 (plainElem (H := Unit) P 3) e0).1 = .int .i64 kx := by
    obtain ⟨_, hy, _⟩ := h0rg e0 hm0
    rw [he0, hkey] at hy; exact (Option.some.inj hy).symm
  have hrgs : (setBlock w b (.map (es.modify j (fun e' => { e' with key := .int .i64 kx, val := .int .i64 vx })) clock')).ranges P 3 (plainElem (H := Unit) P 3) b r n (D.put (.int .i64 kx) (.lit (.int .i64 vx))) lf cnt := by
    refine ⟨_, _, since, seen, c0, heap_setBlock_same hb _, F', by simpa using hs, by rw [hDe, DataW.put_eq, hput], (heap_setBlock_other hb _ hne).trans hri, ?_, by rw [left_modify es seen j _ (by intros; rfl)]; exact hc, ?_, ?_, hsc, hsk⟩
    · intro x hx
      rcases hnew x hx with ⟨h, _⟩ | ⟨_, h, _⟩
      · exact hold x h
      · rw [h]; exact hold e0 hm0
    · intro x hx
      rcases hnew x hx with ⟨h, _⟩ | ⟨hk, h, _⟩
      · exact hl1 x h
      · rw [h, ← hl1 e0 hm0, hk0]
        have := h1rg x hx
        rw [hk, hkey] at this
        rw [← Option.some.inj this]
    · intro kl hkl
      obtain ⟨x, hx, hxk⟩ := hl2 kl hkl
      obtain ⟨i, hi⟩ := List.getElem?_of_mem hx
      by_cases hij : j = i
      · subst hij
        rw [hj] at hi; cases hi
        have hmem : ({ e0 with key := .int .i64 kx, val := .int .i64 vx } : MapEntry) ∈ (es.modify j (fun e' => { e' with key := .int .i64 kx, val := .int .i64 vx })).toList := by
          rw [Array.toList_modify]
          refine List.mem_of_getElem? (i := j) ?_
          rw [List.getElem?_modify, hj]; simp
        refine ⟨_, hmem, ?_⟩
        have := h1rg _ hmem
        rw [hkey] at this
        rw [← Option.some.inj this, ← hxk, hk0]
      · have hmem : x ∈ (es.modify j (fun e' => { e' with key := .int .i64 kx, val := .int .i64 vx })).toList := by
          rw [Array.toList_modify]
          refine List.mem_of_getElem? (i := i) ?_
          rw [List.getElem?_modify, hi]; simp [hij]
        exact ⟨x, hmem, hxk⟩
  unfold Oper.wp
  simp [execOp, hop, hm, hx, hv, hrun, Result.andThen]
  exact hK' _ _ (hK _ ⟨_, _, hrgs, tells_put h3 t' hD hr hrv, el⟩ (World.mapTurned.grown ⟨es, clock', _, _, hb, rfl⟩) hsz)
end
end Go.Proofs.Ytjolnfhgiddafaa.MapInt
