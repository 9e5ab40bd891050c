import Derived.Test.YtibhjlmffgabgaaZRefAlike
namespace Go.Proofs.Ytibhjlmffgabgaa.PAll
open Go.RowKit Go.Proofs.YtibhjlmffgabgaaW.PrintWords Go.Proofs.YtibhjlmffgabgaaW.PrintLast Go.Proofs.YtibhjlmffgabgaaW.PrintMore
open Go.Proofs.Ytibhjlmffgabgaa.MapInt
set_option linter.unusedVariables false
set_option linter.unusedSimpArgs false
structure RN (W w : World) (ga g m : Nat) (P Q K : Nat → Prop) (base : Nat) (shs : List S65) (T : List Thg) (mva : Int) (ls : List SH) (ts : List TH) (mv : Int) (shV thV : Value) : Prop where
  az : AZ w P ga m shs T mva
  rm : RM w base Q K g (m : Int) ls ts mv shV thV
  rf : RF (m : Int) ls ts
  hb : base ≤ w.heap.size
  pq : ∀ k, P k → ¬ Q k
  pk : ∀ k, P k → ¬ K k
  pW : ∀ k, P k → W.heap.size ≤ k
  qW : ∀ k, Q k → W.heap.size ≤ k
  bel : Below W.heap.size W w
section
variable {W w w2 : World} {ga g m base : Nat} {P P' Q K : Nat → Prop} {shs shs' : List S65} {T T' : List Thg} {mva mva' mv mv' : Int} {ls ls' : List SH} {ts ts' : List TH} {shV thV shV' thV' : Value}
theorem RN.below (h : RN W w ga g m P Q K base shs T mva ls ts mv shV thV) (hb : Below w.heap.size w w2) : RN W w2 ga g m P Q K base shs T mva ls ts mv shV thV :=
  ⟨h.az.below hb, h.rm.below hb, h.rf, Nat.le_trans h.hb hb.size, h.pq, h.pk, h.pW, h.qW, below_step h.bel hb⟩
theorem chg_bel {X : Nat → Prop} (h : Below W.heap.size W w) (hc : Chg X w w2) (hX : ∀ k, X k → W.heap.size ≤ k) : Below W.heap.size W w2 :=
  h.trans (hc.below (fun k hk hx => by have := hX k hx; omega) h.size)
theorem RN.a (h : RN W w ga g m P Q K base shs T mva ls ts mv shV thV) (hz : PZ w P ga m shs' T' mva' w2 P') : RN W w2 ga g m P' Q K base shs' T' mva' ls ts mv shV thV := by
  have hn : ∀ k, P' k → P k ∨ w.heap.size ≤ k := hz.nx
  refine ⟨hz.az, h.rm.apart hz.ch (fun k hq hp => h.pq k hp hq) (fun k hk hp => h.pk k hp hk), h.rf, Nat.le_trans h.hb hz.ch.size, fun k hp hq => ?_, fun k hp hk => ?_, fun k hp => ?_, h.qW, chg_bel h.bel hz.ch h.pW⟩
  · rcases hn k hp with h1 | h1
    · exact h.pq k h1 hq
    · have := h.rm.lt k hq; omega
  · rcases hn k hp with h1 | h1
    · exact h.pk k h1 hk
    · have := h.rm.kl k hk; omega
  · rcases hn k hp with h1 | h1
    · exact h.pW k h1
    · have := h.bel.size; omega
theorem RN.mm (h : RN W w ga g m P Q K base shs T mva ls ts mv shV thV) (hr : RM w2 base (PX Q w w2) K g (m : Int) ls' ts' mv' shV' thV') (hf : RF (m : Int) ls' ts') (hc : Chg Q w w2) : RN W w2 ga g m P (PX Q w w2) K base shs T mva ls' ts' mv' shV' thV' := by
  refine ⟨h.az.apart hc h.pq, hr, hf, Nat.le_trans h.hb hc.size, fun k hp hq => ?_, h.pk, h.pW, fun k hq => ?_, chg_bel h.bel hc h.qW⟩
  · rcases hq with h1 | h1
    · exact h.pq k hp h1
    · have := h.az.lt k hp; omega
  · rcases hq with h1 | h1
    · exact h.qW k h1
    · have := h.bel.size; omega
theorem RN.mk2 (h : RN W w ga g m P Q K base shs T mva ls ts mv shV thV) (hr : RM w2 base Q K g (m : Int) ls' ts' mv' shV' thV') (hf : RF (m : Int) ls' ts') (hc : Chg Q w w2) : RN W w2 ga g m P Q K base shs T mva ls' ts' mv' shV' thV' :=
  ⟨h.az.apart hc h.pq, hr, hf, Nat.le_trans h.hb hc.size, h.pq, h.pk, h.pW, h.qW, chg_bel h.bel hc h.qW⟩
theorem RN.moreK {K2 : Nat → Prop} (h : RN W w ga g m P Q K base shs T mva ls ts mv shV thV) (h1 : ∀ k, K k → K2 k) (h2 : ∀ k, K2 k → k < w.heap.size) (h3 : ∀ k, K2 k → ¬ Q k ∧ ¬ P k) : RN W w ga g m P Q K2 base shs T mva ls ts mv shV thV :=
  ⟨h.az, ⟨h.rm.box, h.rm.sh, h.rm.th, fun l hl => ⟨Kd.F_mono (h.rm.kin l hl).1 h1, (h.rm.kin l hl).2⟩, h.rm.wds, h.rm.nd, h.rm.qg, h.rm.qs, h.rm.qt, h.rm.lt, h2, fun k hq hk => (h3 k hk).1 hq⟩, h.rf, h.hb, h.pq, fun k hp hk => (h3 k hk).2 hp, h.pW, h.qW, h.bel⟩
end
theorem cvt_obj (ls : List SH) (l : SH) (h : l.x.f1 = false) : cvt (ls ++ [l]) = cvt ls ++ [⟨l.x.f0.map (· == 3), false, false⟩] := by
  unfold cvt; rw [List.map_append]; simp [cvS, h]
theorem cvt_arr (ls : List SH) (l : SH) (k : Int) (h : l.x.f1 = true) (h0 : l.x.f0 = [k]) : cvt (ls ++ [l]) = cvt ls ++ [⟨[], true, k == 3⟩] := by
  unfold cvt; rw [List.map_append]; simp [cvS, h, h0]
end Go.Proofs.Ytibhjlmffgabgaa.PAll
