/-
  append of a block made just before, with where the new row lies; a row whose one cell is stored.
-/
import Derived.Test.YtjolnfhgiddafaaOwn
import Derived.Maps.AppendAt
namespace Go.Proofs.Ytjolnfhgiddafaa.MapInt
set_option linter.unusedVariables false
set_option linter.unusedSimpArgs false
open Go.RowKit
section
variable {P : Program} {W : World} {ops : Array Oper} {rest : List Oper} {o : Oper} {a : Act} {Q : Exit → Act → World → Prop}
theorem app_new_where (hgd : o.guard = none) (s x : Operand) (t e : TypeId) (z : Value) (size bytes : Nat) (ho : o.op = .call { callee := .builtin .append, args := #[s, x], argTypes := #[t, t] })
    (ht : P.underlying t = some (.slice e)) (hinfo : (P.info? e).map (fun i => (i.zero, i.size, i.bytes)) = some (some z, size, bytes)) (hzs : z.cells.size = size) (hsz : 0 < size)
    {B : Nat} {v : Value} {n : Nat} {xs : List Value} (hs : a.eval s = v) (hown : W.ownsRow B e size v n xs) (cs : Array Value) (m : Nat) {sz : Nat} (hx : a.eval x = .slice (some ⟨sz, 0, none⟩) m m) (hsz' : sz = W.heap.size)
    (hl : cs.size = m * size) (h1 : ∀ u ∈ cs.toList, u.oneCell' = true) (hlen : n + m ≤ 9223372036854775807) (hbytes : (n + m) * bytes ≤ 140737488355328) (hB : B ≤ W.heap.size)
    (hK : ∀ v' w', w'.ownsRow B e size v' (n + m) (xs ++ cs.toList) → (W.alloc (.cells cs e)).grownBy w' v.ownBlock → (v'.ownBlock = v.ownBlock ∨ v'.ownBlock = some (W.heap.size + 1)) → wpList P ops Q rest (a.put o.dst v') w') : wpList P ops Q (o :: rest) a (W.alloc (.cells cs e)) := by
  subst hsz'
  obtain ⟨i, hi, hz, hsize, hby⟩ : ∃ i, P.info? e = some i ∧ i.zero = some z ∧ i.size = size ∧ i.bytes = bytes := by
    cases h : P.info? e with
    | none => rw [h] at hinfo; cases hinfo
    | some i =>
      rw [h] at hinfo
      simp only [Option.map_some, Option.some.injEq, Prod.mk.injEq] at hinfo
      exact ⟨i, rfl, hinfo.1, hinfo.2.1, hinfo.2.2⟩
  refine wpList_append_own_at _ hgd s x t ho B e i z size bytes ht hi hz hsize hby hzs hsz v n xs hs (own_alloc' hown _) ⟨W.heap.size, 0, none⟩ m m cs.toList hx (by simpa using hl) ?_ h1 (by unfold maxLen; exact hlen) hbytes (by simp; omega) (fun v' w' h2 h3 _ h5 => hK v' w' h2 h3 (by simpa using h5))
  intro j u hu
  have hadd : ∀ j : Nat, (⟨W.heap.size, 0, none⟩ : Addr).add j = ⟨W.heap.size, j, none⟩ := by
    intro j
    unfold Addr.add
    split
    · rename_i h; subst h; rfl
    · simp
  rw [hadd]
  simp [World.cell?, World.alloc, -World.alloc_eq]
  simpa using hu
end
end Go.Proofs.Ytjolnfhgiddafaa.MapInt
