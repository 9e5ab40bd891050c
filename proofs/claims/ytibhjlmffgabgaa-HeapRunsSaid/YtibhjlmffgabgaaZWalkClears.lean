import Derived.Test.YtibhjlmffgabgaaZGraph
import Derived.Test.YtibhjlmffgabgaaZGraphPure
import Derived.Test.YtibhjlmffgabgaaZWalkChains
namespace Go.Proofs.Ytibhjlmffgabgaa.PAll
open Go.RowKit Go.Proofs.YtibhjlmffgabgaaW.PrintWords Go.Proofs.YtibhjlmffgabgaaW.PrintLast Go.Proofs.YtibhjlmffgabgaaW.PrintMore
open Go.Proofs.Ytibhjlmffgabgaa.MapInt
set_option linter.unusedVariables false
set_option linter.unusedSimpArgs false
theorem ints_l (l : List Int) (hl : l.length ≤ 1000000) : ∀ (d k i : Nat), l.length - i ≤ d → d < k → i ≤ l.length → regletref10_Ints.l0 k l l (i : Int) = some true
  | d, 0, i, h1, h2, h3 => by omega
  | d, k + 1, i, h1, h2, h3 => by
    unfold regletref10_Ints.l0
    by_cases hi : i < l.length
    · rw [if_pos (by omega), if_pos (by omega), if_pos (by omega), if_pos rfl]
      have e : wrap64 ((i : Int) + 1) = ((i + 1 : Nat) : Int) := by unfold wrap64; omega
      rw [e]
      cases d with
      | zero => omega
      | succ d => exact ints_l l hl d k (i + 1) (by omega) (by omega) (by omega)
    · rw [if_neg (by omega)]
theorem ints_calls {w : World} {A : Option Addr} {c : Nat} {A1 : Option Addr} {c1 : Nat} {l : List Int} (hl : l.length ≤ 1000000) (h0 : Kd.C (Kd.int .i64) w A l.length l) (hc : l.length ≤ c) (h1 : Kd.C (Kd.int .i64) w A1 l.length l) (hc1 : l.length ≤ c1) :
    Calls Try.prog 19 #[.slice A l.length c, .slice A1 l.length c1] w fun e w' => e = .returned (.bool true) ∧ Below w.heap.size w w' := by
  refine (regletref10_Ints.calls (l.length + 1) A c l A1 c1 l true w h0 hc h1 hc1 ?_).mono (fun e w' ⟨e1, h⟩ => ⟨e1, h.below⟩)
  unfold regletref10_Ints.f
  rw [if_pos rfl]
  exact ints_l l hl l.length (l.length + 1) 0 (by omega) (by omega) (by omega)
structure HM (W w : World) (l : List S35) (g i : Nat) (shs : List S65) (T : List Thg) : Prop where
  gd : ∀ j x, j < i → l[j]? = some x → good x = true
  eq : shs = ((l.take i).filter isShape).map shOfC
  aw : AW W w g 3000 shs T 0
  len : shs.length ≤ i
theorem HM.next {W w w2 : World} {l : List S35} {g i : Nat} {shs : List S65} {T T2 : List Thg} {x : S35} (h : HM W w l g i shs T) (hx : l[i]? = some x) (hg : good x = true) (ha : AW W w2 g 3000 (shs ++ (if isShape x = true then [shOfC x] else [])) T2 0) : HM W w2 l g (i + 1) (shs ++ (if isShape x = true then [shOfC x] else [])) T2 :=
  ⟨fun j y hj hy => by
    rcases Nat.lt_or_ge j i with h1 | h1
    · exact h.gd j y h1 hy
    · obtain rfl : j = i := by omega
      rw [hx] at hy; injection hy with hy; subst hy; exact hg, by rw [take_filter hx, List.map_append, ← h.eq]; split <;> rfl, ha, by rw [List.length_append]; have := h.len; split <;> simp <;> omega⟩
theorem HM.below {W w w2 : World} {l : List S35} {g i : Nat} {shs : List S65} {T : List Thg} (h : HM W w l g i shs T) (hb : Below w.heap.size w w2) : HM W w2 l g i shs T := ⟨h.gd, h.eq, h.aw.below hb, h.len⟩
structure CLS (W wc w : World) (P : Nat → Prop) (g : Nat) (a : Ar) : Prop where
  az : AZ w P g 3000 a.shs a.T a.mv
  ge : ∀ k, P k → W.heap.size ≤ k
  lt : ∀ k, P k → k < wc.heap.size
  bel : Below W.heap.size W w
  sz : wc.heap.size ≤ w.heap.size
  wz : W.heap.size ≤ wc.heap.size
def GrS (shs : List S65) (T : List Thg) (r : Int) (s : ByteArray) : Prop := ∃ N, (gSt shs T r N).1.length = N ∧ s = strOfNums (gSt shs T r N).2
section
variable {W wc w w2 : World} {P : Nat → Prop} {g : Nat} {a a2 : Ar}
theorem CLS.below (h : CLS W wc w P g a) (hb : Below w.heap.size w w2) : CLS W wc w2 P g a := ⟨h.az.below hb, h.ge, h.lt, below_step h.bel hb, Nat.le_trans h.sz hb.size, h.wz⟩
theorem CLS.clear (h : CLS W wc w P g a) (hp : PZa w P g 3000 a2 w2 P) : CLS W wc w2 P g a2 := ⟨hp.az, h.ge, h.lt, h.bel.trans (hp.ch.below (fun k hk hh => by have := h.ge k hh; omega) h.bel.size), Nat.le_trans h.sz hp.ch.size, h.wz⟩
theorem CLS.own {B e size n : Nat} {v : Value} {xs : List Value} (h : CLS W wc w P g a) (ho : w.ownsRow B e size v n xs) (hB : wc.heap.size ≤ B) (hp : PZa w P g 3000 a2 w2 P) : w2.ownsRow B e size v n xs := own_move ho (fun k hk => by
  obtain ⟨h1, h2, _⟩ := own_block ho hk
  exact hp.ch.block k h2 (fun hh => by have := h.lt k hh; omega))
end
structure GRS (W wc w : World) (P : Nat → Prop) (g : Nat) (a : Ar) (roots : List Int) (vg : Value) (gs : List ByteArray) : Prop where
  cls : CLS W wc w P g a
  own : w.ownsRow wc.heap.size 9 1 vg gs.length (gs.map Value.string)
  all : ∀ j s, gs[j]? = some s → GrS a.shs a.T (roots.getD j 0) s
theorem GRS.put {W wc w w2 w3 : World} {P : Nat → Prop} {g : Nat} {a : Ar} {roots : List Int} {vg v2 : Value} {gs : List ByteArray} {s : ByteArray} {o : Obj} {cs : List Value} (h : GRS W wc w P g a roots vg gs) (hb : Below w.heap.size w w2) (hs : GrS a.shs a.T (roots.getD gs.length 0) s) (hc : cs = [.string s]) (ho : w3.ownsRow wc.heap.size 9 1 v2 (gs.length + 1) (gs.map Value.string ++ cs)) (hg : (w2.alloc o).grownBy w3 vg.ownBlock) : GRS W wc w3 P g a roots v2 (gs ++ [s]) := by
  subst hc
  have h2 := (h.cls.below hb).below (below_alloc (Below.refl _ _) o)
  have ho2 := own_below (own_below h.own hb) (below_alloc (Below.refl _ _) o)
  refine ⟨⟨h2.az.kept hg.size (fun k hk => hg.block k (h2.az.lt k hk) (fun e => ?_)), h2.ge, h2.lt, h2.bel.grown hg h2.bel.size (fun k hk => by have := (own_row_lt ho2 k hk).2; have := h.cls.wz; omega), Nat.le_trans h2.sz hg.size, h2.wz⟩, by rw [List.length_append, List.map_append]; exact ho, fun j t hj => ?_⟩
  · have h9 := (own_block ho2 e.symm).1
    have := h2.lt k hk
    omega
  · rcases Nat.lt_or_ge j gs.length with h1 | h1
    · rw [List.getElem?_append_left h1] at hj
      exact h.all j t hj
    · have hl := (List.getElem?_eq_some_iff.1 hj).1
      rw [List.length_append] at hl
      obtain rfl : j = gs.length := by simp at hl; omega
      rw [List.getElem?_append_right (Nat.le_refl _), Nat.sub_self] at hj
      injection hj with hj; subst hj; exact hs
structure NS (W wc w : World) (P : Nat → Prop) (g : Nat) (a : Ar) (nl : List Int) (R : Nat) (A2 : Option Addr) (c2 : Nat) (vg : Value) (gs : List ByteArray) : Prop where
  cls : CLS W wc w P g a
  now : w.ownsRow wc.heap.size 3 1 (.slice A2 R c2) R (nums .i64 nl)
  gr : w.ownsRow wc.heap.size 9 1 vg gs.length (gs.map Value.string)
  nlen : nl.length = R
section
variable {W wc w w2 : World} {P : Nat → Prop} {g R : Nat} {a a2 : Ar} {nl : List Int} {A2 : Option Addr} {c2 : Nat} {vg : Value} {gs : List ByteArray}
theorem NS.below (h : NS W wc w P g a nl R A2 c2 vg gs) (hb : Below w.heap.size w w2) : NS W wc w2 P g a nl R A2 c2 vg gs := ⟨h.cls.below hb, own_below h.now hb, own_below h.gr hb, h.nlen⟩
theorem NS.clear (h : NS W wc w P g a nl R A2 c2 vg gs) (hp : PZa w P g 3000 a2 w2 P) : NS W wc w2 P g a2 nl R A2 c2 vg gs := ⟨h.cls.clear hp, h.cls.own h.now (Nat.le_refl _) hp, h.cls.own h.gr (Nat.le_refl _) hp, h.nlen⟩
theorem NS.C (h : NS W wc w P g a nl R A2 c2 vg gs) : Kd.C (Kd.int .i64) w A2 R nl ∧ R ≤ c2 := by
  have h1 := h.now
  rw [← h.nlen] at h1
  obtain ⟨A, c, e, hc, hC⟩ := own_C h1
  injection e with e1 e2 e3
  subst e1; subst e3
  rw [h.nlen] at hC hc
  exact ⟨hC, hc⟩
theorem NS.F (h : NS W wc w P g a nl R A2 c2 vg gs) : Kd.F (Kd.int .i64) w (fun k => (Value.slice A2 R c2).ownBlock = some k) A2 nl.length nl := by
  have h1 := h.now
  rw [← h.nlen] at h1
  have h2 := Kd.R_F (Kd.R_of_own (enc := Value.int .i64) (h1 := fun _ => rfl) (ok := fun k => (Value.slice A2 nl.length c2).ownBlock = some k) h1 (fun k hk => hk))
  rw [h.nlen] at h2 ⊢
  exact h2
end
end Go.Proofs.Ytibhjlmffgabgaa.PAll
