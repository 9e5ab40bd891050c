import Derived.Test.YtibhjlmffgabgaaZMapBool
namespace Go.Proofs.Ytibhjlmffgabgaa.MapInt
set_option linter.unusedVariables false
set_option linter.unusedSimpArgs false
open Go.RowKit Go.ChangeMaps Go.MapKept Go.WideShapes
open Go.WideElems (Fit rd rg pl rd_key rd_val rg_of other_key)
open Go.Maps (Keyed)
def RGB (P : Program) (w : World) (b r n : Nat) (S : Int → Bool) (left : Int → Bool) (cnt : Nat) : Prop :=
  ∃ (D : DataW Unit) (lf : Lit → Bool), w.ranges P 3 (plainElem P 4) b r n D lf cnt ∧ TellsB D S ∧ ∀ k, inR k → lf (.int .i64 k) = left k
section
variable {P : Program} {w w' : World} {b r n cnt : Nat} {S : Int → Bool} {left : Int → Bool}
theorem RGB.ne (h : RGB P w b r n S left cnt) : r ≠ b := let ⟨_, _, h, _⟩ := h; h.ne
theorem RGB.lt (h : RGB P w b r n S left cnt) : r < w.heap.size := let ⟨_, _, h, _⟩ := h; h.lt
theorem RGB.kept {row : Option Nat} (h : RGB P w b r n S left cnt) (hg : w.grownBy w' row) (hb' : some b ≠ row) (hr' : some r ≠ row) : RGB P w' b r n S left cnt :=
  let ⟨D, lf, h, t, e⟩ := h; ⟨D, lf, h.kept hg hb' hr', t, e⟩
theorem RGB.below (h : RGB P w b r n S left cnt) (hb : Below w.heap.size w w') : RGB P w' b r n S left cnt :=
  h.kept (row := none) ⟨hb.os, hb.tape, hb.output, hb.size, fun k hk _ => hb.block k hk⟩ (by simp) (by simp)
variable (h3 : P.underlying 3 = some (.int .i64)) (h4 : P.underlying 4 = some .bool)
variable {ops : Array Oper} {rest : List Oper} {o : Oper} {a : Act} {Q : Exit → Act → World → Prop}
include h3
theorem rngB (hg : o.guard = none) (m : Operand) (t : TypeId) (hop : o.op = Op.range t m) (ht : P.underlying t = some (.map 3 4)) (hm : a.eval m = .map (some b)) (h : BM P w b n S)
    (hK : ∀ w', (∃ cnt, RGB P w' b w.heap.size n S S cnt) → w.grownBy w' none → w'.heap.size = w.heap.size + 1 → wpList P ops Q rest (a.put o.dst (.pointer (some ⟨w.heap.size, 0, none⟩))) w') : wpList P ops Q (o :: rest) a w := by
  obtain ⟨D, ho, t'⟩ := h
  exact wpList_range_own w hg m t hop 3 4 (law h3) ht (plainElem P 4) b n D hm ho (fun w' h1 h2 h3 => hK w' ⟨_, D, _, h1, t', fun k hk => (t' k hk).1⟩ h2 h3)
include h4
theorem nxtB (hg : o.guard = none) (it : Operand) (hop : o.op = Op.next it false) (hit : a.eval it = .pointer (some ⟨r, 0, none⟩)) (h : RGB P w b r n S left cnt)
    (hDone : (∀ k, inR k → left k = false) → wpList P ops Q rest (a.put o.dst (.tuple #[.bool false])) w)
    (hMore : ∀ (x : Int) (w' : World) (cnt' : Nat), inR x → left x = true → S x = true → RGB P w' b r n S (fun z => left z && !decide (z = x)) cnt' → cnt' < cnt →
      w.grownBy w' (some r) → w'.heap.size = w.heap.size → (Instr.entry (.pointer (some ⟨r, 0, none⟩))).run P w' = .ok (.tuple #[.int .i64 x, .bool true]) w' → wpList P ops Q rest (a.put o.dst (.tuple #[.bool true, .int .i64 x, .bool true])) w') : wpList P ops Q (o :: rest) a w := by
  obtain ⟨D, lf, hr, t, el⟩ := h
  refine wpList_next_ranges w hg it hop 3 (law h3) (plainElem P 4) (Value.int .i64) Value.bool (fun key kl hkey => by obtain ⟨x, rfl, _⟩ := Maps.keyOf_int_inv h3 hkey; exact ⟨x, rfl⟩) (fun v y hv => by obtain ⟨c, rfl, _⟩ := bool_inv h4 hv; exact ⟨c, rfl⟩) b r n D lf cnt hit hr (fun _ h0 => hDone fun k hk => (el k hk).symm.trans (h0 _)) (fun x c kl y w' cnt' hkey hl hv hat hrg hlt hg1 hs1 hen => ?_)
  obtain ⟨x', ex, rfl, hwx⟩ := Maps.keyOf_int_inv h3 hkey
  cases ex
  have hxr := wf_inR hwx
  have hkl : WideAt.IsKeyLit (.int .i64 x) := (law h3).key hkey
  obtain ⟨c', ec, rfl⟩ := bool_inv h4 hv
  cases ec
  have hS : S x = true := by
    cases e : S x with
    | true => rfl
    | false =>
      exfalso
      have h1 := hat (.lit (.bool (!c)))
      rw [Maps.atKey_of_not_has (by rw [(t x hxr).1, e])] at h1
      injection h1 with h1; injection h1 with h1
      cases c <;> simp at h1
  have hc : c = true := by
    have h1 := hat (.lit (.bool true))
    rw [(t x hxr).2 hS] at h1
    injection h1 with h1; injection h1 with h1
    exact h1.symm
  subst hc
  refine hMore x w' cnt' hxr ((el x hxr).symm.trans hl) hS ⟨D, _, hrg, t, fun k hk => ?_⟩ hlt hg1 hs1 hen
  show (lf (.int .i64 k) && !(Lit.int .i64 k).sameKey (.int .i64 x)) = _
  rw [el k hk]
  by_cases e : k = x
  · subst e; rw [WideAt.sameKey_self hkl]; simp
  · rw [Maps.sameKey_ne (fun h => e (by injection h))]; simp [e]
end
end Go.Proofs.Ytibhjlmffgabgaa.MapInt
