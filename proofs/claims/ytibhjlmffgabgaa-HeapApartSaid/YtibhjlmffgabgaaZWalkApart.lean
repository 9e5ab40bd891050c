import Derived.Test.YtibhjlmffgabgaaZDo
namespace Go.Proofs.Ytibhjlmffgabgaa.PAll
open Go.RowKit Go.Proofs.YtibhjlmffgabgaaW.PrintWords Go.Proofs.YtibhjlmffgabgaaW.PrintLast Go.Proofs.YtibhjlmffgabgaaW.PrintMore
open Go.Proofs.Ytibhjlmffgabgaa.MapInt
set_option linter.unusedVariables false
set_option linter.unusedSimpArgs false
structure S3 (W w : World) (ga gb gc : Nat) (Pa Pb Pc : Nat → Prop) (a b c : Ar) : Prop where
  ha : AZa w Pa ga 500 a
  hb : AZa w Pb gb 500 b
  hc : AZa w Pc gc 500 c
  dab : ∀ k, Pa k → ¬ Pb k
  dac : ∀ k, Pa k → ¬ Pc k
  dbc : ∀ k, Pb k → ¬ Pc k
  ga : ∀ k, Pa k → W.heap.size ≤ k
  gb : ∀ k, Pb k → W.heap.size ≤ k
  gc : ∀ k, Pc k → W.heap.size ≤ k
  bel : Below W.heap.size W w
section
variable {W w w2 : World} {ga gb gc : Nat} {Pa Pb Pc P' : Nat → Prop} {a b c a' : Ar}
theorem S3.below (h : S3 W w ga gb gc Pa Pb Pc a b c) (k : Below w.heap.size w w2) : S3 W w2 ga gb gc Pa Pb Pc a b c :=
  ⟨AZ.below h.ha k, AZ.below h.hb k, AZ.below h.hc k, h.dab, h.dac, h.dbc, h.ga, h.gb, h.gc, below_step h.bel k⟩
theorem S3.doA (h : S3 W w ga gb gc Pa Pb Pc a b c) (k : PZa w Pa ga 500 a' w2 P') : S3 W w2 ga gb gc P' Pb Pc a' b c :=
  ⟨k.az, AZ.apart h.hb k.ch (fun q hb ha => h.dab q ha hb), AZ.apart h.hc k.ch (fun q hc ha => h.dac q ha hc), fun q hq hb => (k.nx q hq).elim (fun ha => h.dab q ha hb) (fun hl => by have := h.hb.lt q hb; omega), fun q hq hb => (k.nx q hq).elim (fun ha => h.dac q ha hb) (fun hl => by have := h.hc.lt q hb; omega), h.dbc, fun q hq => (k.nx q hq).elim (h.ga q) (fun hl => Nat.le_trans h.bel.size hl), h.gb, h.gc, h.bel.trans (k.ch.below (fun q hq hp => by have := h.ga q hp; omega) h.bel.size)⟩
theorem S3.doB (h : S3 W w ga gb gc Pa Pb Pc a b c) (k : PZa w Pb gb 500 a' w2 P') : S3 W w2 ga gb gc Pa P' Pc a a' c :=
  ⟨AZ.apart h.ha k.ch (fun q ha hb => h.dab q ha hb), k.az, AZ.apart h.hc k.ch (fun q hc hb => h.dbc q hb hc), fun q ha hq => (k.nx q hq).elim (fun hb => h.dab q ha hb) (fun hl => by have := h.ha.lt q ha; omega), h.dac, fun q hq hc => (k.nx q hq).elim (fun hb => h.dbc q hb hc) (fun hl => by have := h.hc.lt q hc; omega), h.ga, fun q hq => (k.nx q hq).elim (h.gb q) (fun hl => Nat.le_trans h.bel.size hl), h.gc, h.bel.trans (k.ch.below (fun q hq hp => by have := h.gb q hp; omega) h.bel.size)⟩
theorem S3.doC (h : S3 W w ga gb gc Pa Pb Pc a b c) (k : PZa w Pc gc 500 a' w2 P') : S3 W w2 ga gb gc Pa Pb P' a b a' :=
  ⟨AZ.apart h.ha k.ch (fun q ha hc => h.dac q ha hc), AZ.apart h.hb k.ch (fun q hb hc => h.dbc q hb hc), k.az, h.dab, fun q ha hq => (k.nx q hq).elim (fun hc => h.dac q ha hc) (fun hl => by have := h.ha.lt q ha; omega), fun q hb hq => (k.nx q hq).elim (fun hc => h.dbc q hb hc) (fun hl => by have := h.hb.lt q hb; omega), h.ga, h.gb, fun q hq => (k.nx q hq).elim (h.gc q) (fun hl => Nat.le_trans h.bel.size hl), h.bel.trans (k.ch.below (fun q hq hp => by have := h.gc q hp; omega) h.bel.size)⟩
end
structure BX (w : World) (b13 : Nat) (CS : Array Value) (P : Nat → Prop) : Prop where
  bk : Blk w b13 35 CS
  nb : ¬ P b13
theorem BX.done {w w2 : World} {b13 : Nat} {CS : Array Value} {P P' Q : Nat → Prop} {g : Nat} {a' : Ar} (h : BX w b13 CS P) (k : PZa w P g 500 a' w2 P') : BX w2 b13 CS P' := by
  refine ⟨?_, fun hp => (k.nx _ hp).elim h.nb (fun hl => by have := h.bk.lt; omega)⟩
  have h1 := k.ch.block b13 h.bk.lt h.nb
  have h2 := h.bk
  unfold Blk at *; rw [h1]; exact h2
theorem BX.other {w w2 : World} {b13 : Nat} {CS : Array Value} {P P' Q : Nat → Prop} {g : Nat} {a' : Ar} (h : BX w b13 CS Q) (hp : ¬ P b13) (k : PZa w P g 500 a' w2 P') : BX w2 b13 CS Q := by
  refine ⟨?_, h.nb⟩
  have h1 := k.ch.block b13 h.bk.lt hp
  have h2 := h.bk
  unfold Blk at *; rw [h1]; exact h2
theorem BX.below {w w2 : World} {b13 : Nat} {CS : Array Value} {P : Nat → Prop} (h : BX w b13 CS P) (k : Below w.heap.size w w2) : BX w2 b13 CS P := ⟨h.bk.below k, h.nb⟩
structure SA (W w : World) (ga gb gc : Nat) (a b c : Ar) : Prop where
  ex : ∃ Pa Pb Pc, S3 W w ga gb gc Pa Pb Pc a b c
structure SB (W w : World) (ga gb gc : Nat) (a b c : Ar) (b13 : Nat) (CS : Array Value) : Prop where
  ex : ∃ Pa Pb Pc, S3 W w ga gb gc Pa Pb Pc a b c ∧ BX w b13 CS Pa ∧ BX w b13 CS Pb ∧ BX w b13 CS Pc
section
variable {W w w2 : World} {ga gb gc b13 : Nat} {CS : Array Value} {a b c : Ar}
theorem SA.below (h : SA W w ga gb gc a b c) (k : Below w.heap.size w w2) : SA W w2 ga gb gc a b c := by
  obtain ⟨Pa, Pb, Pc, h1⟩ := h.ex
  exact ⟨Pa, Pb, Pc, h1.below k⟩
theorem SB.below (h : SB W w ga gb gc a b c b13 CS) (k : Below w.heap.size w w2) : SB W w2 ga gb gc a b c b13 CS := by
  obtain ⟨Pa, Pb, Pc, h1, h2, h3, h4⟩ := h.ex
  exact ⟨Pa, Pb, Pc, h1.below k, h2.below k, h3.below k, h4.below k⟩
theorem SB.sa (h : SB W w ga gb gc a b c b13 CS) : SA W w ga gb gc a b c := by
  obtain ⟨Pa, Pb, Pc, h1, _⟩ := h.ex
  exact ⟨Pa, Pb, Pc, h1⟩
theorem SB.bk (h : SB W w ga gb gc a b c b13 CS) : Blk w b13 35 CS := by
  obtain ⟨Pa, Pb, Pc, _, h1, _⟩ := h.ex
  exact h1.bk
theorem SB.bel (h : SB W w ga gb gc a b c b13 CS) : Below W.heap.size W w := by
  obtain ⟨Pa, Pb, Pc, h1, _⟩ := h.ex
  exact h1.bel
theorem SA.bel (h : SA W w ga gb gc a b c) : Below W.heap.size W w := by
  obtain ⟨Pa, Pb, Pc, h1⟩ := h.ex
  exact h1.bel
theorem SA.box (h : SA W w ga gb gc a b c) (hb : Blk w2 w.heap.size 35 CS) (k : Below w.heap.size w w2) : SB W w2 ga gb gc a b c w.heap.size CS := by
  obtain ⟨Pa, Pb, Pc, h1⟩ := h.ex
  exact ⟨Pa, Pb, Pc, h1.below k, ⟨hb, fun hp => by have := h1.ha.lt _ hp; omega⟩, ⟨hb, fun hp => by have := h1.hb.lt _ hp; omega⟩, ⟨hb, fun hp => by have := h1.hc.lt _ hp; omega⟩⟩
variable {x : S35} {A1 : Option Addr} {c1 : Nat} {A6 : Option Addr} {c6 : Nat}
structure CW (W : World) (x : S35) (A1 : Option Addr) (c1 : Nat) (A6 : Option Addr) (c6 : Nat) : Prop where
  r : CallR W (fun k => k < W.heap.size) x A1 c1 A6 c6
theorem CW.at (h : CW W x A1 c1 A6 c6) (hb : Below W.heap.size W w) : CallR w (fun k => k < W.heap.size) x A1 c1 A6 c6 :=
  ⟨h.r.l1, h.r.l6, Kd.F_step h.r.r1 (fun k _ hl => hb.block k hl), Kd.F_step h.r.r6 (fun k _ hl => hb.block k hl), h.r.m1, h.r.m6, h.r.in5, h.r.in6⟩
structure SZ (a : Ar) (n : Nat) : Prop where
  l : a.shs.length ≤ n
  m : 0 ≤ a.mv ∧ a.mv ≤ n
theorem SZ.do {a : Ar} {n : Nat} (h : SZ a n) (x : S35) : SZ (doF 500 a x).1 (n + 1) := by
  have h1 := h.l
  have h2 := h.m
  unfold doF
  split
  · exact ⟨by simp; omega, by dsimp only; omega⟩
  · split
    · exact ⟨by simp; omega, by dsimp only; omega⟩
    · split
      · exact ⟨by dsimp only; omega, by dsimp only; omega⟩
      · split
        · exact ⟨by dsimp only; omega, by dsimp only; omega⟩
        · split
          · exact ⟨by unfold clrA; dsimp only; omega, by unfold clrA; dsimp only; omega⟩
          · exact ⟨by dsimp only; omega, by dsimp only; omega⟩
theorem doA_calls (h : SB W w ga gb gc a b c b13 CS) (hx : CW W x A1 c1 A6 c6) {n : Nat} (hz : SZ a n) (hn : n ≤ 10000) :
    Calls Try.prog 22 #[.pointer (some ⟨ga, 0, none⟩), callV x A1 c1 A6 c6] w fun e w' => e = .returned (.int .i64 (doF 500 a x).2) ∧ SB W w' ga gb gc (doF 500 a x).1 b c b13 CS := by
  obtain ⟨Pa, Pb, Pc, h1, h2, h3, h4⟩ := h.ex
  have hl := hz.l
  have hm := hz.m
  refine (do_calls h1.ha (hx.at h1.bel) (fun k hk hp => by have := h1.ga k hp; omega) (by omega) (by omega)).mono ?_
  rintro e w' ⟨rfl, P', hp⟩
  exact ⟨rfl, P', Pb, Pc, h1.doA hp, h2.done (Q := Pa) hp, h3.other h2.nb hp, h4.other h2.nb hp⟩
theorem doB_calls (h : SB W w ga gb gc a b c b13 CS) (hx : CW W x A1 c1 A6 c6) {n : Nat} (hz : SZ b n) (hn : n ≤ 10000) :
    Calls Try.prog 22 #[.pointer (some ⟨gb, 0, none⟩), callV x A1 c1 A6 c6] w fun e w' => e = .returned (.int .i64 (doF 500 b x).2) ∧ SB W w' ga gb gc a (doF 500 b x).1 c b13 CS := by
  obtain ⟨Pa, Pb, Pc, h1, h2, h3, h4⟩ := h.ex
  have hl := hz.l
  have hm := hz.m
  refine (do_calls h1.hb (hx.at h1.bel) (fun k hk hp => by have := h1.gb k hp; omega) (by omega) (by omega)).mono ?_
  rintro e w' ⟨rfl, P', hp⟩
  exact ⟨rfl, Pa, P', Pc, h1.doB hp, h2.other h3.nb hp, h3.done (Q := Pa) hp, h4.other h3.nb hp⟩
theorem doC_calls (h : SB W w ga gb gc a b c b13 CS) (hx : CW W x A1 c1 A6 c6) {n : Nat} (hz : SZ c n) (hn : n ≤ 10000) :
    Calls Try.prog 22 #[.pointer (some ⟨gc, 0, none⟩), callV x A1 c1 A6 c6] w fun e w' => (∃ v, e = .returned v) ∧ SB W w' ga gb gc a b (doF 500 c x).1 b13 CS := by
  obtain ⟨Pa, Pb, Pc, h1, h2, h3, h4⟩ := h.ex
  have hl := hz.l
  have hm := hz.m
  refine (do_calls h1.hc (hx.at h1.bel) (fun k hk hp => by have := h1.gc k hp; omega) (by omega) (by omega)).mono ?_
  rintro e w' ⟨rfl, P', hp⟩
  exact ⟨⟨_, rfl⟩, Pa, Pb, P', h1.doC hp, h2.other h4.nb hp, h3.other h4.nb hp, h4.done (Q := Pa) hp⟩
def z4call : S35 := ⟨4, [], 0, 0, 0, 0, []⟩
theorem z4_cw (W : World) : CW W z4call none 0 none 0 := ⟨⟨Nat.le_refl _, Nat.le_refl _, Kd.F_nil _ _ _, Kd.F_nil _ _ _, Nat.zero_le _, Nat.zero_le _, ⟨by decide, by decide⟩, fun r hr => by cases hr⟩⟩
theorem freeA (h : SB W w ga gb gc a b c b13 CS) : Calls Try.prog 13 #[.pointer (some ⟨ga, 0, none⟩)] w fun e w' => e = .returned (.int .i64 (freeF 500 a.shs a.T)) ∧ SB W w' ga gb gc a b c b13 CS := by
  obtain ⟨Pa, Pb, Pc, h1, h2, h3, h4⟩ := h.ex
  exact (free_az h1.ha).mono (fun e w' ⟨e1, hb⟩ => ⟨e1, h.below hb⟩)
theorem freeB (h : SB W w ga gb gc a b c b13 CS) : Calls Try.prog 13 #[.pointer (some ⟨gb, 0, none⟩)] w fun e w' => e = .returned (.int .i64 (freeF 500 b.shs b.T)) ∧ SB W w' ga gb gc a b c b13 CS := by
  obtain ⟨Pa, Pb, Pc, h1, h2, h3, h4⟩ := h.ex
  exact (free_az h1.hb).mono (fun e w' ⟨e1, hb⟩ => ⟨e1, h.below hb⟩)
theorem getA (h : SB W w ga gb gc a b c b13 CS) (p i : Int) : Calls Try.prog 20 #[.pointer (some ⟨ga, 0, none⟩), .int .i64 p, .int .i64 i] w fun e w' => e = .returned (.int .i64 (getF a.shs a.T p i)) ∧ SB W w' ga gb gc a b c b13 CS := by
  obtain ⟨Pa, Pb, Pc, h1, h2, h3, h4⟩ := h.ex
  exact (get_az h1.ha p i).mono (fun e w' ⟨e1, hb⟩ => ⟨e1, h.below hb⟩)
theorem getB (h : SB W w ga gb gc a b c b13 CS) (p i : Int) : Calls Try.prog 20 #[.pointer (some ⟨gb, 0, none⟩), .int .i64 p, .int .i64 i] w fun e w' => e = .returned (.int .i64 (getF b.shs b.T p i)) ∧ SB W w' ga gb gc a b c b13 CS := by
  obtain ⟨Pa, Pb, Pc, h1, h2, h3, h4⟩ := h.ex
  exact (get_az h1.hb p i).mono (fun e w' ⟨e1, hb⟩ => ⟨e1, h.below hb⟩)
theorem freeA' (h : SA W w ga gb gc a b c) : Calls Try.prog 13 #[.pointer (some ⟨ga, 0, none⟩)] w fun e w' => e = .returned (.int .i64 (freeF 500 a.shs a.T)) ∧ SA W w' ga gb gc a b c := by
  obtain ⟨Pa, Pb, Pc, h1⟩ := h.ex
  exact (free_az h1.ha).mono (fun e w' ⟨e1, hb⟩ => ⟨e1, h.below hb⟩)
theorem freeB' (h : SA W w ga gb gc a b c) : Calls Try.prog 13 #[.pointer (some ⟨gb, 0, none⟩)] w fun e w' => e = .returned (.int .i64 (freeF 500 b.shs b.T)) ∧ SA W w' ga gb gc a b c := by
  obtain ⟨Pa, Pb, Pc, h1⟩ := h.ex
  exact (free_az h1.hb).mono (fun e w' ⟨e1, hb⟩ => ⟨e1, h.below hb⟩)
end
def ar0 : Ar := ⟨[], [], 0⟩
theorem sa_new {W w1 w2 w3 w4 : World} {ga gb gc : Nat} {Pa Pb Pc : Nat → Prop} (hW : Below W.heap.size W w1) (ha : AZ w2 Pa ga 500 [] [] 0) (ba : Below w1.heap.size w1 w2) (pa : ∀ k, Pa k → w1.heap.size ≤ k)
    (hb : AZ w3 Pb gb 500 [] [] 0) (bb : Below w2.heap.size w2 w3) (pb : ∀ k, Pb k → w2.heap.size ≤ k) (hc : AZ w4 Pc gc 500 [] [] 0) (bc : Below w3.heap.size w3 w4) (pc : ∀ k, Pc k → w3.heap.size ≤ k) : SA W w4 ga gb gc ar0 ar0 ar0 := by
  have s1 := hW.size
  have s2 := ba.size
  have s3 := bb.size
  exact ⟨Pa, Pb, Pc, (AZ.below ha bb).below bc, AZ.below hb bc, hc, fun k h1 h2 => by have := ha.lt k h1; have := pb k h2; omega, fun k h1 h2 => by have := ha.lt k h1; have := pc k h2; omega, fun k h1 h2 => by have := hb.lt k h1; have := pc k h2; omega,
    fun k h => by have := pa k h; omega, fun k h => by have := pb k h; omega, fun k h => by have := pc k h; omega, below_step (below_step (below_step hW ba) bb) bc⟩
theorem cs7 {w : World} {b13 : Nat} {x : S35} {A1 : Option Addr} {c1 : Nat} {A6 : Option Addr} {c6 : Nat} (h : Blk w b13 35 #[.int .i64 x.f0, .slice A1 x.f1.length c1, .int .i64 x.f2, .int .i64 x.f3, .int .i64 x.f4, .int .i64 x.f5, .slice A6 x.f6.length c6]) : w.cell? ⟨b13, 0, none⟩ = some (.int .i64 x.f0) ∧ w.cell? ⟨b13, 1, none⟩ = some (.slice A1 x.f1.length c1) ∧ w.cell? ⟨b13, 2, none⟩ = some (.int .i64 x.f2) ∧ w.cell? ⟨b13, 3, none⟩ = some (.int .i64 x.f3) ∧ w.cell? ⟨b13, 4, none⟩ = some (.int .i64 x.f4) ∧ w.cell? ⟨b13, 5, none⟩ = some (.int .i64 x.f5) ∧ w.cell? ⟨b13, 6, none⟩ = some (.slice A6 x.f6.length c6) :=
  ⟨h.cell rfl, h.cell rfl, h.cell rfl, h.cell rfl, h.cell rfl, h.cell rfl, h.cell rfl⟩
theorem call_at {W : World} {A : Option Addr} {L : Nat} {l : List S35} (hC : Kd.C k35 W A L l) (hg : ∀ x ∈ l, inR x.f5 ∧ ∀ r ∈ x.f6, inR r) (i : Nat) (hi : i < L) : ∃ ad x A1 c1 A6 c6, A = some ad ∧
    (∀ w, Below W.heap.size W w → w.cell? (ad.add (i * 7)) = some (.int .i64 x.f0) ∧ w.cell? ⟨(ad.add (i * 7)).block, (ad.add (i * 7)).off + 1, none⟩ = some (.slice A1 x.f1.length c1) ∧ w.cell? ⟨(ad.add (i * 7)).block, (ad.add (i * 7)).off + 2, none⟩ = some (.int .i64 x.f2) ∧ w.cell? ⟨(ad.add (i * 7)).block, (ad.add (i * 7)).off + 3, none⟩ = some (.int .i64 x.f3) ∧ w.cell? ⟨(ad.add (i * 7)).block, (ad.add (i * 7)).off + 4, none⟩ = some (.int .i64 x.f4) ∧ w.cell? ⟨(ad.add (i * 7)).block, (ad.add (i * 7)).off + 5, none⟩ = some (.int .i64 x.f5) ∧ w.cell? ⟨(ad.add (i * 7)).block, (ad.add (i * 7)).off + 6, none⟩ = some (.slice A6 x.f6.length c6)) ∧
    (x.f1.length ≤ 50 → x.f6.length ≤ 100 → CW W x A1 c1 A6 c6) ∧ x.f1.length ≤ 9223372036854775807 ∧ x.f6.length ≤ 9223372036854775807 := by
  obtain ⟨ad, A1, c1, A6, c6, e, y0, y1, y2, y3, y4, y5, y6, l1, l6, g1, g6⟩ := at_T35 hC (i : Int) (by omega) (by omega)
  rw [Int.toNat_natCast] at y0 y1 y2 y3 y4 y5 y6
  have hx : rd_T35 l (i : Int) ∈ l := by
    have hl : i < l.length := by rw [hC.1]; exact hi
    unfold rd_T35
    rw [Int.toNat_natCast, List.getD_eq_getElem?_getD, List.getElem?_eq_getElem hl]
    exact List.getElem_mem _
  generalize rd_T35 l (i : Int) = x at *
  obtain ⟨h5, h6⟩ := hg x hx
  exact ⟨ad, x, A1, c1, A6, c6, e, fun w hb => ⟨bcell hb y0, bcell hb y1, bcell hb y2, bcell hb y3, bcell hb y4, bcell hb y5, bcell hb y6⟩, fun m1 m6 => ⟨⟨l1, l6, Kd.C_F (Kd.heap_int _) g1, Kd.C_F (Kd.heap_int _) g6, m1, m6, h5, h6⟩⟩, Kd.C_max g1, Kd.C_max g6⟩
set_option maxHeartbeats 16000000 in
set_option maxRecDepth 100000 in
theorem apart_x (A0 : Option Addr) (c0 : Nat) (l : List S35) (L : Nat) (n : Int) (W : World) (hC : Kd.C k35 W A0 L l) (hg : ∀ x ∈ l, inR x.f5 ∧ ∀ r ∈ x.f6, inR r) (hL : L ≤ 9223372036854775807) :
    Calls Try.prog 6 #[.slice A0 L c0, .int .i64 n] W fun e W' => e = .returned (.bool true) ∧ Below W.heap.size W W' := by
  have HN : Aside0 (∀ w, Calls Try.prog 10 #[.int .i64 500] w fun e w' => ∃ g P, e = .returned (.tuple #[.pointer (some ⟨g, 0, none⟩), .int .i64 0]) ∧ AZ w' P g 500 [] [] 0 ∧ Below w.heap.size w w' ∧ ∀ k, P k → w.heap.size ≤ k) := ⟨fun w => new_az w 500 (by decide) (by decide)⟩
  have HCL := Aside0.mk (fun i hi => call_at hC hg i hi)
  clear hC hg
  go_enter Try.func6, Try.ntmps6
  go_wp2_with (first | (go_at_call 9; (with_reducible refine (holds_calls _).mono ?_); rintro e w1 ⟨rfl, hb1⟩; have HB1 := Aside0.mk hb1; clear hb1) | (go_at_call 10; (with_reducible refine (HN.out w1).mono ?_); rintro e w2 ⟨ga, Pa, rfl, ha, ba, pa⟩; have HA := Aside0.mk (And.intro ha (And.intro ba pa)); clear ha ba pa) | (go_at_call 10; (with_reducible refine (HN.out w2).mono ?_); rintro e w3 ⟨gb, Pb, rfl, hb, bb, pb⟩; have HB := Aside0.mk (And.intro hb (And.intro bb pb)); clear hb bb pb) | (go_at_call 10; (with_reducible refine (HN.out w3).mono ?_); rintro e w4 ⟨gc, Pc, rfl, hc, bc, pc⟩; have HS0 := Aside0.mk (sa_new HB1.out HA.out.1 HA.out.2.1 HA.out.2.2 HB.out.1 HB.out.2.1 HB.out.2.2 hc bc pc); clear hc bc pc HA HB HB1 HN))
  go_loopw [30] (fun v30 wr => ∃ (i : Nat) (a c : Ar), i ≤ L ∧ i ≤ 100 ∧ v30 = .int .i64 i ∧ SZ a i ∧ SZ c (2 * i) ∧ Aside0 (SA W wr ga gb gc a a c)) (fun v30 _ => L - (intOf v30).toNat)
  case atStart => exact ⟨0, ar0, ar0, Nat.zero_le _, Nat.zero_le _, rfl, ⟨Nat.le_refl _, Int.le_refl _, Int.le_refl _⟩, ⟨Nat.le_refl _, Int.le_refl _, Int.le_refl _⟩, HS0⟩
  case round =>
    clear HS0
    obtain ⟨i, a, c, hi, hi2, rfl, hza, hzc, HS⟩ := hrel
    have HFA : Aside0 (∀ w, SA W w ga gb gc a a c → Calls Try.prog 13 #[.pointer (some ⟨ga, 0, none⟩)] w fun e w' => e = .returned (.int .i64 (freeF 500 a.shs a.T)) ∧ SA W w' ga gb gc a a c) := ⟨fun w h => freeA' h⟩
    have HFB : Aside0 (∀ w, SA W w ga gb gc a a c → Calls Try.prog 13 #[.pointer (some ⟨gb, 0, none⟩)] w fun e w' => e = .returned (.int .i64 (freeF 500 a.shs a.T)) ∧ SA W w' ga gb gc a a c) := ⟨fun w h => freeB' h⟩
    have HZA := Aside0.mk hza
    have HZC := Aside0.mk hzc
    clear hza hzc
    by_cases hlt : i < L
    · have hltI : (i : Int) < (L : Int) := by omega
      obtain ⟨ad, x, A1, c1, A6, c6, rfl, hcell, hcw, hx1, hx6⟩ := HCL.out i hlt
      obtain ⟨y0, y1, y2, y3, y4, y5, y6⟩ := hcell wr HS.out.bel
      have HCW := Aside0.mk hcw
      clear hcell hcw
      have HSB : Aside0 (SB W (wr.alloc (.cells #[.int .i64 x.f0, .slice A1 x.f1.length c1, .int .i64 x.f2, .int .i64 x.f3, .int .i64 x.f4, .int .i64 x.f5, .slice A6 x.f6.length c6] 35)) ga gb gc a a c wr.heap.size #[.int .i64 x.f0, .slice A1 x.f1.length c1, .int .i64 x.f2, .int .i64 x.f3, .int .i64 x.f4, .int .i64 x.f5, .slice A6 x.f6.length c6]) := ⟨HS.out.box (Blk.made _ _ _) (below_alloc (Below.refl _ _) _)⟩
      by_cases h1 : i = 100
      · have b1 : ((i : Int) == 100) = true := by simp; omega
        clear HCL h1
        go_wp2_with (first | (go_at_call 13; (with_reducible refine (HFA.out _ HSB.out.sa).mono ?_); rintro e w5 ⟨rfl, hs5⟩; have HS5 := Aside0.mk hs5; clear hs5 HSB HFA) | (go_at_call 13; (with_reducible refine (HFB.out _ HS5.out).mono ?_); rintro e w6 ⟨rfl, hs6⟩; have HBE := Aside0.mk hs6.bel; clear hs6 HS5 HFB))
        (try go_ret)
        exact ⟨rfl, HBE.out⟩
      have b1 : ((i : Int) == 100) = false := by simp; omega
      by_cases h2 : 50 < x.f1.length
      · have b2 : (50 : Int) < (x.f1.length : Int) := by omega
        clear HCL h1 h2
        go_wp2_with (first | (go_at_call 13; (with_reducible refine (HFA.out _ HSB.out.sa).mono ?_); rintro e w5 ⟨rfl, hs5⟩; have HS5 := Aside0.mk hs5; clear hs5 HSB HFA) | (go_at_call 13; (with_reducible refine (HFB.out _ HS5.out).mono ?_); rintro e w6 ⟨rfl, hs6⟩; have HBE := Aside0.mk hs6.bel; clear hs6 HS5 HFB))
        (try go_ret)
        exact ⟨rfl, HBE.out⟩
      have b2 : decide ((50 : Int) < (x.f1.length : Int)) = false := by simp; omega
      by_cases h3 : 50 < x.f6.length
      · have b3 : (50 : Int) < (x.f6.length : Int) := by omega
        clear HCL h1 h2 h3
        go_wp2_with (first | (go_at_call 13; (with_reducible refine (HFA.out _ HSB.out.sa).mono ?_); rintro e w5 ⟨rfl, hs5⟩; have HS5 := Aside0.mk hs5; clear hs5 HSB HFA) | (go_at_call 13; (with_reducible refine (HFB.out _ HS5.out).mono ?_); rintro e w6 ⟨rfl, hs6⟩; have HBE := Aside0.mk hs6.bel; clear hs6 HS5 HFB))
        (try go_ret)
        exact ⟨rfl, HBE.out⟩
      have b3 : decide ((50 : Int) < (x.f6.length : Int)) = false := by simp; omega
      have HCX := Aside0.mk (HCW.out (by omega) (by omega))
      have hi3 : i + 1 ≤ 100 := by omega
      clear h1 h2 h3 HCW HCL hx1 hx6
      go_wp2_with fail
      generalize wr.alloc (.cells #[.int .i64 x.f0, .slice A1 x.f1.length c1, .int .i64 x.f2, .int .i64 x.f3, .int .i64 x.f4, .int .i64 x.f5, .slice A6 x.f6.length c6] 35) = wb at *
      generalize wr.heap.size = b13 at *
      clear y0 y1 y2 y3 y4 y5 y6
      have HDA : Aside0 (∀ w, SB W w ga gb gc a a c b13 #[.int .i64 x.f0, .slice A1 x.f1.length c1, .int .i64 x.f2, .int .i64 x.f3, .int .i64 x.f4, .int .i64 x.f5, .slice A6 x.f6.length c6] → Calls Try.prog 22 #[.pointer (some ⟨ga, 0, none⟩), .agg #[.int .i64 x.f0, .slice A1 x.f1.length c1, .int .i64 x.f2, .int .i64 x.f3, .int .i64 x.f4, .int .i64 x.f5, .slice A6 x.f6.length c6]] w fun e w' => e = .returned (.int .i64 (doF 500 a x).2) ∧ SB W w' ga gb gc (doF 500 a x).1 a c b13 #[.int .i64 x.f0, .slice A1 x.f1.length c1, .int .i64 x.f2, .int .i64 x.f3, .int .i64 x.f4, .int .i64 x.f5, .slice A6 x.f6.length c6]) := ⟨fun w h => doA_calls h HCX.out HZA.out (by omega)⟩
      have HDB : Aside0 (∀ w, SB W w ga gb gc (doF 500 a x).1 a c b13 #[.int .i64 x.f0, .slice A1 x.f1.length c1, .int .i64 x.f2, .int .i64 x.f3, .int .i64 x.f4, .int .i64 x.f5, .slice A6 x.f6.length c6] → Calls Try.prog 22 #[.pointer (some ⟨gb, 0, none⟩), .agg #[.int .i64 x.f0, .slice A1 x.f1.length c1, .int .i64 x.f2, .int .i64 x.f3, .int .i64 x.f4, .int .i64 x.f5, .slice A6 x.f6.length c6]] w fun e w' => e = .returned (.int .i64 (doF 500 a x).2) ∧ SB W w' ga gb gc (doF 500 a x).1 (doF 500 a x).1 c b13 #[.int .i64 x.f0, .slice A1 x.f1.length c1, .int .i64 x.f2, .int .i64 x.f3, .int .i64 x.f4, .int .i64 x.f5, .slice A6 x.f6.length c6]) := ⟨fun w h => doB_calls h HCX.out HZA.out (by omega)⟩
      have HDC : Aside0 (∀ w a', SB W w ga gb gc a' a' c b13 #[.int .i64 x.f0, .slice A1 x.f1.length c1, .int .i64 x.f2, .int .i64 x.f3, .int .i64 x.f4, .int .i64 x.f5, .slice A6 x.f6.length c6] → Calls Try.prog 22 #[.pointer (some ⟨gc, 0, none⟩), .agg #[.int .i64 x.f0, .slice A1 x.f1.length c1, .int .i64 x.f2, .int .i64 x.f3, .int .i64 x.f4, .int .i64 x.f5, .slice A6 x.f6.length c6]] w fun e w' => (∃ v, e = .returned v) ∧ SB W w' ga gb gc a' a' (doF 500 c x).1 b13 #[.int .i64 x.f0, .slice A1 x.f1.length c1, .int .i64 x.f2, .int .i64 x.f3, .int .i64 x.f4, .int .i64 x.f5, .slice A6 x.f6.length c6]) := ⟨fun w a' h => doC_calls h HCX.out HZC.out (by omega)⟩
      have HZC2 := Aside0.mk (HZC.out.do x)
      have HDZ : Aside0 (∀ w a', SB W w ga gb gc a' a' (doF 500 c x).1 b13 #[.int .i64 x.f0, .slice A1 x.f1.length c1, .int .i64 x.f2, .int .i64 x.f3, .int .i64 x.f4, .int .i64 x.f5, .slice A6 x.f6.length c6] → Calls Try.prog 22 #[.pointer (some ⟨gc, 0, none⟩), .agg #[.int .i64 4, .slice none 0 0, .int .i64 0, .int .i64 0, .int .i64 0, .int .i64 0, .slice none 0 0]] w fun e w' => (∃ v, e = .returned v) ∧ SB W w' ga gb gc a' a' (doF 500 (doF 500 c x).1 z4call).1 b13 #[.int .i64 x.f0, .slice A1 x.f1.length c1, .int .i64 x.f2, .int .i64 x.f3, .int .i64 x.f4, .int .i64 x.f5, .slice A6 x.f6.length c6]) := ⟨fun w a' h => doC_calls h (z4_cw W) HZC2.out (by omega)⟩
      have HZC3 : Aside0 (SZ (doF 500 (doF 500 c x).1 z4call).1 (2 * (i + 1)) ∧ SZ c (2 * (i + 1))) := ⟨HZC2.out.do z4call, ⟨by have := HZC.out.l; omega, by have := HZC.out.m; omega⟩⟩
      have HZA2 := Aside0.mk (HZA.out.do x)
      generalize doF 500 (doF 500 c x).1 z4call = cz at *
      generalize doF 500 c x = cx at *
      generalize hra : doF 500 a x = ra at *
      have HFR : Aside0 (∀ w, SB W w ga gb gc ra.1 ra.1 c b13 #[.int .i64 x.f0, .slice A1 x.f1.length c1, .int .i64 x.f2, .int .i64 x.f3, .int .i64 x.f4, .int .i64 x.f5, .slice A6 x.f6.length c6] → Calls Try.prog 13 #[.pointer (some ⟨ga, 0, none⟩)] w fun e w' => e = .returned (.int .i64 (freeF 500 ra.1.shs ra.1.T)) ∧ SB W w' ga gb gc ra.1 ra.1 c b13 #[.int .i64 x.f0, .slice A1 x.f1.length c1, .int .i64 x.f2, .int .i64 x.f3, .int .i64 x.f4, .int .i64 x.f5, .slice A6 x.f6.length c6]) := ⟨fun w h => freeA h⟩
      have HFQ : Aside0 (∀ w, SB W w ga gb gc ra.1 ra.1 c b13 #[.int .i64 x.f0, .slice A1 x.f1.length c1, .int .i64 x.f2, .int .i64 x.f3, .int .i64 x.f4, .int .i64 x.f5, .slice A6 x.f6.length c6] → Calls Try.prog 13 #[.pointer (some ⟨gb, 0, none⟩)] w fun e w' => e = .returned (.int .i64 (freeF 500 ra.1.shs ra.1.T)) ∧ SB W w' ga gb gc ra.1 ra.1 c b13 #[.int .i64 x.f0, .slice A1 x.f1.length c1, .int .i64 x.f2, .int .i64 x.f3, .int .i64 x.f4, .int .i64 x.f5, .slice A6 x.f6.length c6]) := ⟨fun w h => freeB h⟩
      have HGR : Aside0 (∀ w, SB W w ga gb gc ra.1 ra.1 c b13 #[.int .i64 x.f0, .slice A1 x.f1.length c1, .int .i64 x.f2, .int .i64 x.f3, .int .i64 x.f4, .int .i64 x.f5, .slice A6 x.f6.length c6] → Calls Try.prog 20 #[.pointer (some ⟨ga, 0, none⟩), .int .i64 x.f4, .int .i64 x.f3] w fun e w' => e = .returned (.int .i64 (getF ra.1.shs ra.1.T x.f4 x.f3)) ∧ SB W w' ga gb gc ra.1 ra.1 c b13 #[.int .i64 x.f0, .slice A1 x.f1.length c1, .int .i64 x.f2, .int .i64 x.f3, .int .i64 x.f4, .int .i64 x.f5, .slice A6 x.f6.length c6]) := ⟨fun w h => getA h _ _⟩
      have HGQ : Aside0 (∀ w, SB W w ga gb gc ra.1 ra.1 c b13 #[.int .i64 x.f0, .slice A1 x.f1.length c1, .int .i64 x.f2, .int .i64 x.f3, .int .i64 x.f4, .int .i64 x.f5, .slice A6 x.f6.length c6] → Calls Try.prog 20 #[.pointer (some ⟨gb, 0, none⟩), .int .i64 x.f4, .int .i64 x.f3] w fun e w' => e = .returned (.int .i64 (getF ra.1.shs ra.1.T x.f4 x.f3)) ∧ SB W w' ga gb gc ra.1 ra.1 c b13 #[.int .i64 x.f0, .slice A1 x.f1.length c1, .int .i64 x.f2, .int .i64 x.f3, .int .i64 x.f4, .int .i64 x.f5, .slice A6 x.f6.length c6]) := ⟨fun w h => getB h _ _⟩
      clear HZA HZC HFA HFB HS HZC2
      obtain ⟨z0, z1, z2, z3, z4, z5, z6⟩ := cs7 HSB.out.bk
      generalize freeF 500 ra.1.shs ra.1.T = fr at *
      generalize getF ra.1.shs ra.1.T x.f4 x.f3 = gr at *
      generalize ra.2 = rv at *
      go_region_held3 (fun w' : World => w'.cell? ⟨b13, 0, none⟩ = some (.int .i64 x.f0) ∧ w'.cell? ⟨b13, 1, none⟩ = some (.slice A1 x.f1.length c1) ∧ w'.cell? ⟨b13, 2, none⟩ = some (.int .i64 x.f2) ∧ w'.cell? ⟨b13, 3, none⟩ = some (.int .i64 x.f3) ∧ w'.cell? ⟨b13, 4, none⟩ = some (.int .i64 x.f4) ∧ w'.cell? ⟨b13, 5, none⟩ = some (.int .i64 x.f5) ∧ w'.cell? ⟨b13, 6, none⟩ = some (.slice A6 x.f6.length c6)) (first | go_keep | (exact cs7 HS10.out.bk) | (exact cs7 HS9.out.bk) | (exact cs7 HS8.out.bk) | (exact cs7 HS7.out.bk) | (exact cs7 HS6.out.bk) | (exact cs7 HS5.out.bk)) (first
        | (go_at_call 22; refine (HDA.out _ (HSB.out.below (by repeat' first | exact Below.refl _ _ | apply below_drew))).mono ?_; rintro e w5 ⟨rfl, hs5⟩; have HS5 := Aside0.mk hs5; clear hs5 HDA HSB)
        | (go_at_call 22; refine (HDB.out _ (HS5.out.below (by repeat' first | exact Below.refl _ _ | apply below_drew))).mono ?_; rintro e w6 ⟨rfl, hs6⟩; have HS6 := Aside0.mk hs6; clear hs6 HDB HS5)
        | (go_at_call 13; refine (HFR.out _ (HS6.out.below (by repeat' first | exact Below.refl _ _ | apply below_drew))).mono ?_; rintro e w7 ⟨rfl, hs7⟩; have HS7 := Aside0.mk hs7; clear hs7 HFR HS6)
        | (go_at_call 13; refine (HFQ.out _ (HS7.out.below (by repeat' first | exact Below.refl _ _ | apply below_drew))).mono ?_; rintro e w8 ⟨rfl, hs8⟩; have HS8 := Aside0.mk hs8; clear hs8 HFQ HS7)
        | (go_at_call 20; refine (HGR.out _ (HS8.out.below (by repeat' first | exact Below.refl _ _ | apply below_drew))).mono ?_; rintro e w9 ⟨rfl, hs9⟩; have HS9 := Aside0.mk hs9; clear hs9 HGR HS8)
        | (go_at_call 20; refine (HGQ.out _ (HS9.out.below (by repeat' first | exact Below.refl _ _ | apply below_drew))).mono ?_; rintro e w10 ⟨rfl, hs10⟩; have HS10 := Aside0.mk hs10; clear hs10 HGQ HS9))
      clear z0 z1 z2 z3 z4 z5 z6
      obtain ⟨z0, z1, z2, z3, z4, z5, z6⟩ := cs7 HS10.out.bk
      by_cases hin : (i : Int) < n
      · go_wp2_with (first | (go_at_call 22; (with_reducible refine (HDC.out _ _ HS10.out).mono ?_); rintro e w11 ⟨⟨v11, rfl⟩, hs11⟩; have HS11 := Aside0.mk hs11; clear hs11 HDC HS10 z0 z1 z2 z3 z4 z5 z6) | (go_at_call 22; (with_reducible refine (HDZ.out _ _ HS11.out).mono ?_); rintro e w12 ⟨⟨v12, rfl⟩, hs12⟩; have HS12 := Aside0.mk hs12; clear hs12 HDZ HS11))
        go_roundw
        case rel => exact ⟨i + 1, ra.1, cz.1, by omega, by omega, by go_num, HZA2.out, HZC3.out.1, ⟨HS12.out.sa⟩⟩
        case measure => (simp [intOf]; omega)
      · go_wp2_with fail
        go_roundw
        case rel => exact ⟨i + 1, ra.1, c, by omega, by omega, by go_num, HZA2.out, HZC3.out.2, ⟨HS10.out.sa⟩⟩
        case measure => (simp [intOf]; omega)
    · have hltI : ¬ (i : Int) < (L : Int) := by omega
      clear HCL
      go_wp2_with (first | (go_at_call 13; (with_reducible refine (HFA.out _ HS.out).mono ?_); rintro e w5 ⟨rfl, hs5⟩; have HS5 := Aside0.mk hs5; clear hs5 HS HFA) | (go_at_call 13; (with_reducible refine (HFB.out _ HS5.out).mono ?_); rintro e w6 ⟨rfl, hs6⟩; have HBE := Aside0.mk hs6.bel; clear hs6 HS5 HFB))
      (try go_ret)
      exact ⟨rfl, HBE.out⟩
theorem g35_ok {H : Type} {x : S35} {d : DataW H} (h : G35 x d) : inR x.f5 ∧ ∀ r ∈ x.f6, inR r := by
  obtain ⟨d0, d1, d2, d3, d4, d5, d6, _, _, _, _, _, _, h5, h6⟩ := h
  exact ⟨wf_inR h5.1, h6.all (fun a d hh => wf_inR hh.1)⟩
theorem heapApart_walk (A0 : Option Addr) (c0 : Nat) (l : List S35) (n : Int) (W : World) (hC : Kd.C k35 W A0 l.length l) (hg : ∀ x ∈ l, inR x.f5 ∧ ∀ r ∈ x.f6, inR r) :
    Calls Try.prog 6 #[.slice A0 l.length c0, .int .i64 n] W fun e W' => e = .returned (.bool true) ∧ Below W.heap.size W W' := apart_x A0 c0 l l.length n W hC hg (Kd.C_max hC)
end Go.Proofs.Ytibhjlmffgabgaa.PAll
