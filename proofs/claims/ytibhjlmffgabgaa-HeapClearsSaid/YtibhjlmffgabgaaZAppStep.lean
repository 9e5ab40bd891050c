import Derived.Test.YtibhjlmffgabgaaZG0
import Derived.Test.YtibhjlmffgabgaaZG1
namespace Go.Proofs.Ytibhjlmffgabgaa.MapInt
open Go.RowKit Go.Proofs.YtibhjlmffgabgaaW.PrintWords
set_option linter.unusedVariables false
section
variable {P : Program} {ops : Array Oper} {o : Oper} {a : Act} {Kc : Act → World → Prop} {Q' : Exit → Act → World → Prop} {E : Prop} {W : World}
theorem gate_step {N : Nat} (_ho : o.dst = some N) (h : if Region.wanted o (yielded ops a.tmps) = true then Oper.wp P o a W Kc Q' else E) : if Region.wanted o (yielded ops a.tmps) = true then Oper.wp P o a W Kc Q' else E := h
theorem app_step (hgd : o.guard = none) (s x : Operand) (t e : TypeId) (z : Value) (size bytes : Nat) (ho : o.op = .call { callee := .builtin .append, args := #[s, x], argTypes := #[t, t] })
    (ht : P.underlying t = some (.slice e)) (hinfo : (P.info? e).map (fun i => (i.zero, i.size, i.bytes)) = some (some z, size, bytes)) (hzs : z.cells.size = size) (hsz : 0 < size)
    {B : Nat} {v : Value} {n : Nat} {xs : List Value} (hs : a.eval s = v) (hown : W.ownsRow B e size v n xs) (cs : Array Value) (m : Nat) (hx : a.eval x = .slice (some ⟨W.heap.size, 0, none⟩) m m)
    (hl : cs.size = m * size) (h1 : ∀ u ∈ cs.toList, u.oneCell' = true) (hlen : n + m ≤ 9223372036854775807) (hbytes : (n + m) * bytes ≤ 140737488355328) (hB : B ≤ W.heap.size)
    (hK : ∀ v' w', w'.ownsRow B e size v' (n + m) (xs ++ cs.toList) → (W.alloc (.cells cs e)).grownBy w' v.ownBlock → Kc (a.put o.dst v') w') :
    if Region.wanted o (yielded ops a.tmps) = true then Oper.wp P o a (W.alloc (.cells cs e)) Kc Q' else E := by
  have hw : Region.wanted o (yielded ops a.tmps) = true := by simp [Region.wanted, hgd]
  rw [if_pos hw]
  obtain ⟨i, hi, hz, hsize, hby⟩ : ∃ i, P.info? e = some i ∧ i.zero = some z ∧ i.size = size ∧ i.bytes = bytes := by
    cases h : P.info? e with
    | none => rw [h] at hinfo; cases hinfo
    | some i =>
      rw [h] at hinfo
      simp only [Option.map_some, Option.some.injEq, Prod.mk.injEq] at hinfo
      exact ⟨i, rfl, hinfo.1, hinfo.2.1, hinfo.2.2⟩
  refine wp_append_own _ s x t ho B e i z size bytes ht hi hz hsize hby hzs hsz v n xs hs (own_alloc' hown _) ⟨W.heap.size, 0, none⟩ m m cs.toList hx (by simpa using hl) ?_ h1 (by unfold maxLen; exact hlen) hbytes (by simp; omega) (fun v' w' h2 h3 _ => hK v' w' h2 h3)
  intro j u hu
  have hadd : ∀ j : Nat, (⟨W.heap.size, 0, none⟩ : Addr).add j = ⟨W.heap.size, j, none⟩ := by
    intro j
    unfold Addr.add
    split
    · rename_i h; subst h; rfl
    · simp
  rw [hadd]
  simp [World.cell?, World.alloc, -World.alloc_eq]
  simpa using hu
end
end Go.Proofs.Ytibhjlmffgabgaa.MapInt
