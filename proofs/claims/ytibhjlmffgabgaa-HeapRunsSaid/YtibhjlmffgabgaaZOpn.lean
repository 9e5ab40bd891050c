import Derived.Test.YtibhjlmffgabgaaZG0
import Derived.Test.YtibhjlmffgabgaaZG1
import Derived.Deep.Slices
import Derived.Deep.Fields
import Derived.ChangeSame
namespace Go.Proofs.Ytibhjlmffgabgaa.MapInt
open Go.ChangeShapes Go.WideShapes Go.Deep Go.RowKit Go.Proofs.YtibhjlmffgabgaaW.PrintWords
set_option linter.unusedVariables false
theorem choose_list {α : Type} (P : Nat → α → Prop) (n : Nat) (h : ∀ i, i < n → ∃ x, P i x) : ∃ l : List α, l.length = n ∧ ∀ i x, l[i]? = some x → P i x := by
  induction n with
  | zero => exact ⟨[], rfl, fun i x hx => by simp at hx⟩
  | succ n ih =>
    obtain ⟨l, hl, hp⟩ := ih (fun i hi => h i (by omega))
    obtain ⟨y, hy⟩ := h n (by omega)
    refine ⟨l ++ [y], by simp [hl], fun i x hx => ?_⟩
    rcases Nat.lt_or_ge i l.length with hi | hi
    · rw [List.getElem?_append_left hi] at hx; exact hp i x hx
    · have : i = l.length := by
        have := (List.getElem?_eq_some_iff.1 hx).1
        rw [List.length_append, List.length_singleton] at this; omega
      subst this
      obtain rfl : y = x := by simpa using hx
      rw [hl]; exact hy
section
variable {H : Type}
def Opn {α : Type} (enc : TypeId × Value → H) (P : Program) (w : World) (t : TypeId) (d : Kd α) (G : α → DataW H → Prop) : Prop :=
  ∀ (fuel : Nat) (cs : List Value) (x : DataW H × List MemPlace), DataW.trod enc P w 0 (fun _ => true) true fuel t cs = some x → ∃ a, d.K w a cs ∧ G a x.1
def GInt (k : IntKind) (n : Int) (y : DataW H) : Prop := (Lit.int k n).wf = true ∧ y = .lit (.int k n)
def GSl {α : Type} (G : α → DataW H → Prop) (l : List α) (y : DataW H) : Prop :=
  (l = [] ∧ y = .nil) ∨ ∃ ds sp : List (DataW H), y = .slice ds sp ∧ ds.length = l.length ∧ ∀ (i : Nat) (a : α) (d : DataW H), l[i]? = some a → ds[i]? = some d → G a d
theorem GSl.all {α : Type} {G : α → DataW H → Prop} {Q : α → Prop} (hq : ∀ a d, G a d → Q a) {l : List α} {y : DataW H} (h : GSl G l y) : ∀ a ∈ l, Q a := by
  intro a ha
  rcases h with ⟨rfl, _⟩ | ⟨ds, sp, _, hl, hg⟩
  · cases ha
  · obtain ⟨i, hi⟩ := List.getElem?_of_mem ha
    have hlt := (List.getElem?_eq_some_iff.1 hi).1
    exact hq a _ (hg i a _ hi (List.getElem?_eq_getElem (by omega)))
variable {enc : TypeId × Value → H} {P : Program} {w : World}
theorem opn_int {t : TypeId} {k : IntKind} (ht : P.underlying t = some (.int k)) : Opn enc P w t (Kd.int k) (GInt k) := fun fuel cs x h => by
  obtain ⟨n, rfl, rfl, hw⟩ := DataW.trod_int ht h
  exact ⟨n, rfl, hw, rfl⟩
theorem opn_slice {α : Type} {t e : TypeId} {d : Kd α} {G : α → DataW H → Prop} (ht : P.underlying t = some (.slice e)) (hsz : P.cellsOf e = d.sz) (hd : Opn enc P w e d G) : Opn enc P w t (Kd.slice e d) (GSl G) := fun fuel cs x h => by
  rcases open_slice ht h with ⟨rfl, rfl⟩ | ⟨a, len, cap, m, n, D, Pl, rfl, hb, hl, hm, hmm, rfl, hi⟩
  · exact ⟨[], ⟨none, 0, rfl, Nat.le_refl _, rfl, by simp, fun h => absurd h (by simp)⟩, Or.inl ⟨rfl, rfl⟩⟩
  · have hlm : len ≤ m := by rw [hmm]; split <;> omega
    unfold maxLen at hm
    obtain ⟨l, hll, hp⟩ := choose_list (fun i (p : α) => ∃ c, c.length = d.sz ∧ d.K w p c ∧ (∀ j u, c[j]? = some u → w.cell? (a.add (i * d.sz + j)) = some u) ∧ G p (D i)) len (fun i hil => by
      obtain ⟨cs', h1, h2⟩ := hi i (by omega)
      rw [hsz] at h1
      obtain ⟨p, hK, hG⟩ := hd _ _ _ h2
      obtain ⟨_, hcl, hat⟩ := World.cells?_some h1
      refine ⟨p, cs', hcl, hK, fun j u hu => ?_, hG⟩
      have hj : j < d.sz := by have := (List.getElem?_eq_some_iff.1 hu).1; omega
      rw [← Go.Deep.add_add, hat j hj, hu])
    refine ⟨l, ⟨some a, cap, by rw [hll], by omega, rfl, by omega, fun _ => ⟨a, rfl, fun j p hj => ?_⟩⟩, Or.inr ⟨_, _, rfl, by simp [hll], fun i p q hp2 hq => ?_⟩⟩
    · obtain ⟨c, c1, c2, c3, _⟩ := hp j p hj
      exact ⟨c, c1, c2, c3⟩
    · obtain ⟨c, _, _, _, c4⟩ := hp i p hp2
      rw [List.getElem?_map] at hq
      cases h9 : (List.range len)[i]? with
      | none => rw [h9] at hq; cases hq
      | some z =>
        rw [h9] at hq
        injection hq with hq
        have hz : z = i := by
          have hlt := (List.getElem?_eq_some_iff.1 h9).1
          rw [List.length_range] at hlt
          rw [List.getElem?_range hlt] at h9
          injection h9 with h9; exact h9.symm
        rw [← hq, hz]; exact c4
theorem opn_fields {t : TypeId} {fs : Array Field} (he : P.underlying t = some (.struct fs)) (hone : Go.Deep.oneCellFields P fs = true) (hC : P.cellsOf t = fs.size) {fuel : Nat} {cs : List Value} {x : DataW H × List MemPlace}
    (h : DataW.trod enc P w 0 (fun _ => true) true fuel t cs = some x) : cs.length = fs.size ∧ ∃ (ys : List (DataW H × List MemPlace)) (n : Nat), x.1 = .agg (ys.map (·.1)) ∧ ys.length = fs.size ∧
      ∀ (j : Nat) (f : Field), fs[j]? = some f → ∃ (v : Value) (y : DataW H × List MemPlace), cs[j]? = some v ∧ ys[j]? = some y ∧ DataW.trod enc P w 0 (fun _ => true) true n f.type [v] = some y := by
  obtain ⟨ys, n, _, rfl, hlen, hyl, hf⟩ := DataW.trod_struct he h
  rw [hC] at hlen
  refine ⟨hlen, ys, n, rfl, hyl, fun j f hj => ?_⟩
  obtain ⟨ho, hk⟩ := hone_of hone j f hj
  have hjl : j < fs.size := (Array.getElem?_eq_some_iff.1 hj).1
  have h1 := hf j f hj
  rw [ho, hk] at h1
  have hone' : (cs.drop j).take 1 = [cs[j]'(by omega)] := by
    rw [List.drop_eq_getElem_cons (by omega)]
    rfl
  rw [hone'] at h1
  have hys : ys[j]? = some (ys[j]'(by omega)) := List.getElem?_eq_getElem (by omega)
  exact ⟨_, _, List.getElem?_eq_getElem (by omega), hys, h1.trans hys⟩
theorem opn_arg {α : Type} {t e : TypeId} {d : Kd α} {G : α → DataW H → Prop} (ht : P.underlying t = some (.slice e)) (hsz : P.cellsOf e = d.sz) (hd : Opn enc P w e d G) {A : Option Addr} {n c : Nat} {dt : DataW H} {p : List MemPlace}
    (h : DataW.Trod enc P w 0 (fun _ => true) true t (.slice A n c) dt p) : ∃ l : List α, l.length = n ∧ n ≤ c ∧ d.C w A n l ∧ GSl G l dt := by
  obtain ⟨fuel, hf⟩ := h
  obtain ⟨l, ⟨A', c', h1, h2, h3⟩, hg⟩ := opn_slice ht hsz hd fuel _ _ hf
  have h4 : (Value.slice A n c).cells.toList = [.slice A n c] := by simp [Value.cells]
  rw [h4] at h1
  injection h1 with h1 _
  injection h1 with e1 e2 e3
  subst e1; subst e3
  exact ⟨l, e2.symm, by omega, by rw [e2]; exact h3, hg⟩
end
end Go.Proofs.Ytibhjlmffgabgaa.MapInt
