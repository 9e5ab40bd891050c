import Derived.Test.YtibhjlmffgabgaaZDo
namespace Go.Proofs.Ytibhjlmffgabgaa.PAll
open Go.RowKit Go.Proofs.YtibhjlmffgabgaaW.PrintWords Go.Proofs.YtibhjlmffgabgaaW.PrintLast Go.Proofs.YtibhjlmffgabgaaW.PrintMore
open Go.Proofs.Ytibhjlmffgabgaa.MapInt
set_option linter.unusedVariables false
set_option linter.unusedSimpArgs false
structure S3 (W w : World) (ga gb gc : Nat) (Pa Pb Pc : Nat → Prop) (a b c : Ar) : Prop where
  ha : AZa w Pa ga 500 a
  hb : AZa w Pb gb 500 b
  hc : AZa w Pc gc 500 c
  dab : ∀ k, Pa k → ¬ Pb k
  dac : ∀ k, Pa k → ¬ Pc k
  dbc : ∀ k, Pb k → ¬ Pc k
  ga : ∀ k, Pa k → W.heap.size ≤ k
  gb : ∀ k, Pb k → W.heap.size ≤ k
  gc : ∀ k, Pc k → W.heap.size ≤ k
  bel : Below W.heap.size W w
section
variable {W w w2 : World} {ga gb gc : Nat} {Pa Pb Pc P' : Nat → Prop} {a b c a' : Ar}
theorem S3.below (h : S3 W w ga gb gc Pa Pb Pc a b c) (k : Below w.heap.size w w2) : S3 W w2 ga gb gc Pa Pb Pc a b c :=
  ⟨AZ.below h.ha k, AZ.below h.hb k, AZ.below h.hc k, h.dab, h.dac, h.dbc, h.ga, h.gb, h.gc, below_step h.bel k⟩
end
structure BX (w : World) (b13 : Nat) (CS : Array Value) (P : Nat → Prop) : Prop where
  bk : Blk w b13 35 CS
  nb : ¬ P b13
theorem BX.done {w w2 : World} {b13 : Nat} {CS : Array Value} {P P' Q : Nat → Prop} {g : Nat} {a' : Ar} (h : BX w b13 CS P) (k : PZa w P g 500 a' w2 P') : BX w2 b13 CS P' := by
  refine ⟨?_, fun hp => (k.nx _ hp).elim h.nb (fun hl => by have := h.bk.lt; omega)⟩
  have h1 := k.ch.block b13 h.bk.lt h.nb
  have h2 := h.bk
  unfold Blk at *; rw [h1]; exact h2
theorem BX.below {w w2 : World} {b13 : Nat} {CS : Array Value} {P : Nat → Prop} (h : BX w b13 CS P) (k : Below w.heap.size w w2) : BX w2 b13 CS P := ⟨h.bk.below k, h.nb⟩
structure SA (W w : World) (ga gb gc : Nat) (a b c : Ar) : Prop where
  ex : ∃ Pa Pb Pc, S3 W w ga gb gc Pa Pb Pc a b c
structure SB (W w : World) (ga gb gc : Nat) (a b c : Ar) (b13 : Nat) (CS : Array Value) : Prop where
  ex : ∃ Pa Pb Pc, S3 W w ga gb gc Pa Pb Pc a b c ∧ BX w b13 CS Pa ∧ BX w b13 CS Pb ∧ BX w b13 CS Pc
section
variable {W w w2 : World} {ga gb gc b13 : Nat} {CS : Array Value} {a b c : Ar}
theorem SA.below (h : SA W w ga gb gc a b c) (k : Below w.heap.size w w2) : SA W w2 ga gb gc a b c := by
  obtain ⟨Pa, Pb, Pc, h1⟩ := h.ex
  exact ⟨Pa, Pb, Pc, h1.below k⟩
theorem SB.below (h : SB W w ga gb gc a b c b13 CS) (k : Below w.heap.size w w2) : SB W w2 ga gb gc a b c b13 CS := by
  obtain ⟨Pa, Pb, Pc, h1, h2, h3, h4⟩ := h.ex
  exact ⟨Pa, Pb, Pc, h1.below k, h2.below k, h3.below k, h4.below k⟩
theorem SB.bk (h : SB W w ga gb gc a b c b13 CS) : Blk w b13 35 CS := by
  obtain ⟨Pa, Pb, Pc, _, h1, _⟩ := h.ex
  exact h1.bk
theorem SB.bel (h : SB W w ga gb gc a b c b13 CS) : Below W.heap.size W w := by
  obtain ⟨Pa, Pb, Pc, h1, _⟩ := h.ex
  exact h1.bel
theorem SA.bel (h : SA W w ga gb gc a b c) : Below W.heap.size W w := by
  obtain ⟨Pa, Pb, Pc, h1⟩ := h.ex
  exact h1.bel
theorem SA.box (h : SA W w ga gb gc a b c) (hb : Blk w2 w.heap.size 35 CS) (k : Below w.heap.size w w2) : SB W w2 ga gb gc a b c w.heap.size CS := by
  obtain ⟨Pa, Pb, Pc, h1⟩ := h.ex
  exact ⟨Pa, Pb, Pc, h1.below k, ⟨hb, fun hp => by have := h1.ha.lt _ hp; omega⟩, ⟨hb, fun hp => by have := h1.hb.lt _ hp; omega⟩, ⟨hb, fun hp => by have := h1.hc.lt _ hp; omega⟩⟩
variable {x : S35} {A1 : Option Addr} {c1 : Nat} {A6 : Option Addr} {c6 : Nat}
structure CW (W : World) (x : S35) (A1 : Option Addr) (c1 : Nat) (A6 : Option Addr) (c6 : Nat) : Prop where
  r : CallR W (fun k => k < W.heap.size) x A1 c1 A6 c6
theorem CW.at (h : CW W x A1 c1 A6 c6) (hb : Below W.heap.size W w) : CallR w (fun k => k < W.heap.size) x A1 c1 A6 c6 :=
  ⟨h.r.l1, h.r.l6, Kd.F_step h.r.r1 (fun k _ hl => hb.block k hl), Kd.F_step h.r.r6 (fun k _ hl => hb.block k hl), h.r.m1, h.r.m6, h.r.in5, h.r.in6⟩
structure SZ (a : Ar) (n : Nat) : Prop where
  l : a.shs.length ≤ n
  m : 0 ≤ a.mv ∧ a.mv ≤ n
end
theorem cs7 {w : World} {b13 : Nat} {x : S35} {A1 : Option Addr} {c1 : Nat} {A6 : Option Addr} {c6 : Nat} (h : Blk w b13 35 #[.int .i64 x.f0, .slice A1 x.f1.length c1, .int .i64 x.f2, .int .i64 x.f3, .int .i64 x.f4, .int .i64 x.f5, .slice A6 x.f6.length c6]) : w.cell? ⟨b13, 0, none⟩ = some (.int .i64 x.f0) ∧ w.cell? ⟨b13, 1, none⟩ = some (.slice A1 x.f1.length c1) ∧ w.cell? ⟨b13, 2, none⟩ = some (.int .i64 x.f2) ∧ w.cell? ⟨b13, 3, none⟩ = some (.int .i64 x.f3) ∧ w.cell? ⟨b13, 4, none⟩ = some (.int .i64 x.f4) ∧ w.cell? ⟨b13, 5, none⟩ = some (.int .i64 x.f5) ∧ w.cell? ⟨b13, 6, none⟩ = some (.slice A6 x.f6.length c6) :=
  ⟨h.cell rfl, h.cell rfl, h.cell rfl, h.cell rfl, h.cell rfl, h.cell rfl, h.cell rfl⟩
theorem call_at {W : World} {A : Option Addr} {L : Nat} {l : List S35} (hC : Kd.C k35 W A L l) (hg : ∀ x ∈ l, inR x.f5 ∧ ∀ r ∈ x.f6, inR r) (i : Nat) (hi : i < L) : ∃ ad x A1 c1 A6 c6, A = some ad ∧
    (∀ w, Below W.heap.size W w → w.cell? (ad.add (i * 7)) = some (.int .i64 x.f0) ∧ w.cell? ⟨(ad.add (i * 7)).block, (ad.add (i * 7)).off + 1, none⟩ = some (.slice A1 x.f1.length c1) ∧ w.cell? ⟨(ad.add (i * 7)).block, (ad.add (i * 7)).off + 2, none⟩ = some (.int .i64 x.f2) ∧ w.cell? ⟨(ad.add (i * 7)).block, (ad.add (i * 7)).off + 3, none⟩ = some (.int .i64 x.f3) ∧ w.cell? ⟨(ad.add (i * 7)).block, (ad.add (i * 7)).off + 4, none⟩ = some (.int .i64 x.f4) ∧ w.cell? ⟨(ad.add (i * 7)).block, (ad.add (i * 7)).off + 5, none⟩ = some (.int .i64 x.f5) ∧ w.cell? ⟨(ad.add (i * 7)).block, (ad.add (i * 7)).off + 6, none⟩ = some (.slice A6 x.f6.length c6)) ∧
    (x.f1.length ≤ 50 → x.f6.length ≤ 100 → CW W x A1 c1 A6 c6) ∧ x.f1.length ≤ 9223372036854775807 ∧ x.f6.length ≤ 9223372036854775807 := by
  obtain ⟨ad, A1, c1, A6, c6, e, y0, y1, y2, y3, y4, y5, y6, l1, l6, g1, g6⟩ := at_T35 hC (i : Int) (by omega) (by omega)
  rw [Int.toNat_natCast] at y0 y1 y2 y3 y4 y5 y6
  have hx : rd_T35 l (i : Int) ∈ l := by
    have hl : i < l.length := by rw [hC.1]; exact hi
    unfold rd_T35
    rw [Int.toNat_natCast, List.getD_eq_getElem?_getD, List.getElem?_eq_getElem hl]
    exact List.getElem_mem _
  generalize rd_T35 l (i : Int) = x at *
  obtain ⟨h5, h6⟩ := hg x hx
  exact ⟨ad, x, A1, c1, A6, c6, e, fun w hb => ⟨bcell hb y0, bcell hb y1, bcell hb y2, bcell hb y3, bcell hb y4, bcell hb y5, bcell hb y6⟩, fun m1 m6 => ⟨⟨l1, l6, Kd.C_F (Kd.heap_int _) g1, Kd.C_F (Kd.heap_int _) g6, m1, m6, h5, h6⟩⟩, Kd.C_max g1, Kd.C_max g6⟩
theorem g35_ok {H : Type} {x : S35} {d : DataW H} (h : G35 x d) : inR x.f5 ∧ ∀ r ∈ x.f6, inR r := by
  obtain ⟨d0, d1, d2, d3, d4, d5, d6, _, _, _, _, _, _, h5, h6⟩ := h
  exact ⟨wf_inR h5.1, h6.all (fun a d hh => wf_inR hh.1)⟩
end Go.Proofs.Ytibhjlmffgabgaa.PAll
