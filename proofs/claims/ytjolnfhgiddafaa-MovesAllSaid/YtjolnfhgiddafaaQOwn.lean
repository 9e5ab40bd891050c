/-
  A queue of the call's own (a row that may begin inside its block): append of a block made just before; the cut from 1 on.
-/
import Derived.Test.YtjolnfhgiddafaaOwn
import Derived.Test.YtjolnfhgiddafaaWWords
namespace Go.Proofs.Ytjolnfhgiddafaa.MapInt
set_option linter.unusedVariables false
set_option linter.unusedSimpArgs false
open Go.RowKit Go.Proofs.YtjolnfhgiddafaaW.PrintWords
section
variable {P : Program} {W : World} {ops : Array Oper} {rest : List Oper} {o : Oper} {a : Act} {Q : Exit → Act → World → Prop}
theorem info_split {e : TypeId} {z : Value} {size bytes : Nat} (hinfo : (P.info? e).map (fun i => (i.zero, i.size, i.bytes)) = some (some z, size, bytes)) : ∃ i, P.info? e = some i ∧ i.zero = some z ∧ i.size = size ∧ i.bytes = bytes := by
  cases h : P.info? e with
  | none => rw [h] at hinfo; cases hinfo
  | some i =>
    rw [h] at hinfo
    simp only [Option.map_some, Option.some.injEq, Prod.mk.injEq] at hinfo
    exact ⟨i, rfl, hinfo.1, hinfo.2.1, hinfo.2.2⟩
theorem q_kept {w w' : World} {base n size : Nat} {e : TypeId} {v : Value} {xs : List Value} {row : Option Nat} (h : QRow w base e size v n xs) (hg : w.grownBy w' row) (hne : ∀ k, v.ownBlock = some k → some k ≠ row) : QRow w' base e size v n xs :=
  q_move h fun k hk => hg.block k (q_lt h k hk) (hne k hk)
theorem q_below {w w' : World} {base n size : Nat} {e : TypeId} {v : Value} {xs : List Value} (h : QRow w base e size v n xs) (hb : Below w.heap.size w w') : QRow w' base e size v n xs :=
  q_move h fun k hk => hb.block k (q_lt h k hk)
theorem q_apart {w : World} {b1 b2 : Nat} {e1 e2 : TypeId} {s1 s2 n1 n2 : Nat} {v1 v2 : Value} {x1 x2 : List Value} (h1 : QRow w b1 e1 s1 v1 n1 x1) (h2 : w.ownsRow b2 e2 s2 v2 n2 x2) (hne : e1 ≠ e2) : ∀ k, v1.ownBlock = some k → some k ≠ v2.ownBlock := by
  intro k hk e
  obtain ⟨_, c1, hc1⟩ := q_typed h1 k hk
  obtain ⟨_, _, c2, hc2⟩ := own_block h2 e.symm
  rw [hc1] at hc2
  injection hc2 with hc2; injection hc2 with _ hc2; exact hne hc2
theorem q_apart_obj {w : World} {base : Nat} {e : TypeId} {size n g : Nat} {v : Value} {xs : List Value} {o : Obj} (h : QRow w base e size v n xs) (hg : w.heap[g]? = some o) (ho : ∀ cs, o ≠ .cells cs e (0, 0)) : ∀ k, v.ownBlock = some k → some k ≠ some g := by
  intro k hk e
  injection e with e; subst e
  obtain ⟨_, c1, hc1⟩ := q_typed h k hk
  rw [hg] at hc1; injection hc1 with hc1; exact ho c1 hc1

/-- append(q, x..) where x is a block made just before. -/
theorem q_app_new (hgd : o.guard = none) (s x : Operand) (t e : TypeId) (z : Value) (size bytes : Nat) (ho : o.op = .call { callee := .builtin .append, args := #[s, x], argTypes := #[t, t] })
    (ht : P.underlying t = some (.slice e)) (hinfo : (P.info? e).map (fun i => (i.zero, i.size, i.bytes)) = some (some z, size, bytes)) (hzs : z.cells.size = size) (hsz : 0 < size)
    {B : Nat} {v : Value} {n : Nat} {xs : List Value} (hs : a.eval s = v) (hown : QRow W B e size v n xs) (cs : Array Value) (m : Nat) (hx : a.eval x = .slice (some ⟨W.heap.size, 0, none⟩) m m)
    (hl : cs.size = m * size) (h1 : ∀ u ∈ cs.toList, u.oneCell' = true) (hm : 0 < m) (hlen : n + m ≤ 9223372036854775807) (hbytes : (n + m) * bytes ≤ 140737488355328) (hB : B ≤ W.heap.size)
    (hK : ∀ v' w', QRow w' B e size v' (n + m) (xs ++ cs.toList) → (W.alloc (.cells cs e)).grownBy w' v.ownBlock → wpList P ops Q rest (a.put o.dst v') w') : wpList P ops Q (o :: rest) a (W.alloc (.cells cs e)) := by
  obtain ⟨i, hi, hz, hsize, hby⟩ := info_split hinfo
  refine wpList_plain hgd fun K' hK' => ?_
  have hadd : ∀ j : Nat, (⟨W.heap.size, 0, none⟩ : Addr).add j = ⟨W.heap.size, j, none⟩ := by
    intro j
    unfold Addr.add
    split
    · rename_i h; subst h; rfl
    · simp
  obtain ⟨v', w', hrun, h2, h3, _⟩ := q_append (P := P) (W.alloc (.cells cs e)) B t o.type e i z size bytes ht hi hz hsize hby hzs hsz v n xs (q_below hown ((Below.refl _ _).alloc (Nat.le_refl _) _)) ⟨W.heap.size, 0, none⟩ m m cs.toList (by simpa using hl)
    (fun j u hu => by
      rw [hadd]
      simp [World.cell?, World.alloc, -World.alloc_eq]
      simpa using hu) h1 hm (by unfold maxLen; exact hlen) hbytes (by simp; omega)
  unfold Oper.wp
  simp [execOp, ho, resolve, invoke, builtin, hs, hx, hrun, Result.andThen]
  exact hK' _ _ (hK v' w' h2 h3)
theorem q_app_new_at (hgd : o.guard = none) (s x : Operand) (t e : TypeId) (z : Value) (size bytes : Nat) (ho : o.op = .call { callee := .builtin .append, args := #[s, x], argTypes := #[t, t] })
    (ht : P.underlying t = some (.slice e)) (hinfo : (P.info? e).map (fun i => (i.zero, i.size, i.bytes)) = some (some z, size, bytes)) (hzs : z.cells.size = size) (hsz : 0 < size)
    {B : Nat} {v : Value} {n : Nat} {xs : List Value} (hs : a.eval s = v) (hown : QRow W B e size v n xs) (cs : Array Value) (m : Nat) {sz : Nat} (hx : a.eval x = .slice (some ⟨sz, 0, none⟩) m m) (hsz' : sz = W.heap.size)
    (hl : cs.size = m * size) (h1 : ∀ u ∈ cs.toList, u.oneCell' = true) (hm : 0 < m) (hlen : n + m ≤ 9223372036854775807) (hbytes : (n + m) * bytes ≤ 140737488355328) (hB : B ≤ W.heap.size)
    (hK : ∀ v' w', QRow w' B e size v' (n + m) (xs ++ cs.toList) → (W.alloc (.cells cs e)).grownBy w' v.ownBlock → wpList P ops Q rest (a.put o.dst v') w') : wpList P ops Q (o :: rest) a (W.alloc (.cells cs e)) := by
  subst hsz'; exact q_app_new hgd s x t e z size bytes ho ht hinfo hzs hsz hs hown cs m hx hl h1 hm hlen hbytes hB hK

/-- 'q[1:]'. -/
theorem q_tail (hgd : o.guard = none) (s : Operand) (t e : TypeId) (ho : o.op = .slice t s (some (.const (.int .i64 1))) none none) (ht : P.underlying t = some (.slice e)) {i : TypeInfo} (hi : P.info? e = some i) {size : Nat} (hsz : i.size = size)
    {B : Nat} {v : Value} {n : Nat} {xs : List Value} (hs : a.eval s = v) (h : QRow W B e size v (n + 1) xs)
    (hK : ∀ v', QRow W B e size v' n (xs.drop size) → (∃ A c, v' = .slice A n c) → v'.oneCell' = true → wpList P ops Q rest (a.put o.dst v') W) : wpList P ops Q (o :: rest) a W := by
  obtain ⟨A, c, rfl, hc⟩ := q_slice h
  refine wpList_plain hgd fun K' hK' => ?_
  have hq := q_drop h (k := 1) (by omega)
  have hrun := cut_from (P := P) t e .i64 ht hi size hsz A (n + 1) c 1 (by decide) (by omega) W
  have h1 : (1 : Int).toNat = 1 := rfl
  rw [h1] at hrun
  simp only [Nat.one_mul, Nat.add_sub_cancel] at hq hrun
  have hel : P.underlying t = some (.slice (P.elem t)) := by rw [show P.elem t = e by simp [Program.elem, ht]]; exact ht
  unfold Oper.wp
  simp only [execOp, ho]
  rw [hs]
  simp only [Option.map_some, Option.map_none, Act.eval, Sem.run_bind, run_sliceAt_slice W t _ _ _ _ hel, hrun, Result.andThen]
  exact hK' _ _ (hK _ hq ⟨_, _, rfl⟩ rfl)
end
end Go.Proofs.Ytjolnfhgiddafaa.MapInt
