import Derived.Test.YtibhjlmffgabgaaZNew
import Derived.Deep.RegionLaw
namespace Go.Proofs.Ytibhjlmffgabgaa.PAll
open Go.RowKit Go.Proofs.YtibhjlmffgabgaaW.PrintWords Go.Proofs.YtibhjlmffgabgaaW.PrintLast Go.Proofs.YtibhjlmffgabgaaW.PrintMore
open Go.Proofs.Ytibhjlmffgabgaa.MapInt
set_option linter.unusedVariables false
set_option linter.unusedSimpArgs false
theorem shOf_app {shs : List S65} {p : S65} {s : Nat} (h : s < shs.length) : shOf (shs ++ [p]) s = shOf shs s := by
  unfold shOf; rw [List.getD_eq_getElem?_getD, List.getElem?_append_left h, List.getD_eq_getElem?_getD]
theorem shOf_last {shs : List S65} {p : S65} : shOf (shs ++ [p]) shs.length = p := by
  unfold shOf; simp
theorem tsz_app {shs : List S65} {p : S65} {t : Thg} (h : okT shs t) : tsz (shs ++ [p]) t = tsz shs t := by unfold tsz; rw [shOf_app h.1]
theorem enc_app {shs : List S65} {p : S65} {t : Thg} (h : okT shs t) : encT (shs ++ [p]) t = encT shs t := by unfold encT; rw [shOf_app h.1]
theorem beg_app {shs : List S65} {p : S65} {t : Thg} (h : okT shs t) : begT (shs ++ [p]) t = begT shs t := by unfold begT; rw [tsz_app h]
theorem ok_app {shs : List S65} {p : S65} {t : Thg} (h : okT shs t) : okT (shs ++ [p]) t := by
  unfold okT; rw [shOf_app h.1]; exact ⟨by have := h.1; simp; omega, h.2⟩
theorem flat_app {shs : List S65} {p : S65} : ∀ T : List Thg, (∀ t ∈ T, okT shs t) → T.flatMap (encT (shs ++ [p])) = T.flatMap (encT shs) ∧ T.flatMap (begT (shs ++ [p])) = T.flatMap (begT shs) ∧ sumT (shs ++ [p]) T = sumT shs T
  | [], _ => ⟨rfl, rfl, rfl⟩
  | t :: T, h => by
    obtain ⟨h1, h2, h3⟩ := flat_app T (fun y hy => h y (by simp [hy]))
    have ht := h t (by simp)
    refine ⟨by rw [List.flatMap_cons, List.flatMap_cons, h1, enc_app ht], by rw [List.flatMap_cons, List.flatMap_cons, h2, beg_app ht], ?_⟩
    have e : ∀ s : List S65, sumT s (t :: T) = tsz s t + sumT s T := fun s => by simp [sumT]
    rw [e, e, h3, tsz_app ht]
def PN (P : Nat → Prop) (w : World) (k : Nat) : Prop := P k ∨ w.heap.size ≤ k
theorem am_tell {w w1 w2 : World} {base g gw gs n : Nat} {P Q : Nat → Prop} {ws : List Int} {sts : List Bool} {nx mv : Int} {shV v1 : Value} {shs shs2 : List S65} (h : AM w base P g gw gs n ws sts nx mv shV shs) (hq : ∀ k, P k → Q k)
    (hn : Kd.N k65 65 w1 base (fun k => Q k ∧ k ≠ g ∧ k ≠ gw ∧ k ≠ gs) v1 shs2) (hg1 : w.grownBy w1 shV.ownBlock) (hb : Blk w2 g 63 (arC gw gs n nx v1 mv)) (hg2 : w1.grownBy w2 (some g)) : AM w2 base Q g gw gs n ws sts nx mv v1 shs2 := by
  have hne : ∀ k, shV.ownBlock = some k → k ≠ g ∧ k ≠ gw ∧ k ≠ gs := fun k hk => (h.shp.1 k hk).2
  refine ⟨hb, ?_, ?_, Kd.N_grown hn hg2 (fun k hk e => hk.2.1 (by injection e)), h.lw, h.ls, hq _ h.pg, hq _ h.pw, hq _ h.ps⟩
  · exact (h.wds.kept hg1 (fun e => (hne gw e.symm).2.1 rfl)).kept hg2 (fun e => h.gne.1 (by injection e with e; exact e.symm))
  · exact (h.stb.kept hg1 (fun e => (hne gs e.symm).2.2 rfl)).kept hg2 (fun e => h.gne.2.1 (by injection e with e; exact e.symm))
theorem as_tell {w w2 : World} {base g most : Nat} {P Q : Nat → Prop} {shs : List S65} {T : List Thg} {mv : Int} (h : AS w base P g most shs T mv) {p : S65} (hp : p.f0.length ≤ 1000) {gw gs : Nat} {shV : Value} {w0 : Int} {junk : List Int}
    (hM : AM w2 base Q g gw gs (most + 1) ([w0] ++ T.flatMap (encT shs) ++ junk) ([false] ++ T.flatMap (begT shs) ++ List.replicate (most - sumT shs T) false) (1 + sumT shs T : Nat) mv shV (shs ++ [p])) : AS w2 base Q g most (shs ++ [p]) T mv := by
  obtain ⟨e1, e2, e3⟩ := flat_app (p := p) T h.things
  refine ⟨h.bnd, by rw [e3]; exact h.room, fun t ht => ok_app (h.things t ht), fun s => ?_, h.wrd, gw, gs, shV, w0, junk, by rw [e1, e2, e3]; exact hM⟩
  by_cases hs : s < shs.length
  · rw [shOf_app hs]; exact h.shl s
  · by_cases hs2 : s = shs.length
    · subst hs2; rw [shOf_last]; exact hp
    · unfold shOf; rw [List.getD_eq_getElem?_getD, List.getElem?_eq_none (by simp; omega)]; simp [z65]
theorem chg_tell {w w1 w2 : World} {base g gw gs n : Nat} {P : Nat → Prop} {ws : List Int} {sts : List Bool} {nx mv : Int} {shV : Value} {shs : List S65} (h : AM w base P g gw gs n ws sts nx mv shV shs) (hg1 : w.grownBy w1 shV.ownBlock) (hg2 : w1.grownBy w2 (some g)) : Chg P w w2 := by
  have h1 : Chg P w w1 := ⟨hg1.os, hg1.tape, hg1.output, hg1.size, fun k hk hn => hg1.block k hk (fun e => hn (h.shp.1 k e.symm).1)⟩
  exact h1.trans (Chg.of_grown hg2 (.inl h.pg)) (fun k hk => .inl hk)
theorem info65b : (Try.prog.info? 65).map (fun i => (i.zero, i.size, i.bytes)) = some (some (.agg #[.slice none 0 0, .bool false, .bool false]), 3, 32) := by kernel_rfl
theorem oi61 : (Try.prog.info? 61).map (·.size) = some 1 := by kernel_rfl
theorem fk_nil (W : World) (ok : Nat → Prop) (b e : Bool) : Kd.FK k65 W ok ⟨[], b, e⟩ [.slice none 0 0, .bool b, .bool e] := k65_mkF W ok ⟨[], b, e⟩ (Nat.zero_le _) (Kd.F_nil _ _ _)
theorem pn_own {w : World} {base g gw gs n : Nat} {P : Nat → Prop} {ws : List Int} {sts : List Bool} {nx mv : Int} {shV : Value} {shs : List S65} (h : AM w base P g gw gs n ws sts nx mv shV shs) : Kd.N k65 65 w base (fun k => PN P w k ∧ k ≠ g ∧ k ≠ gw ∧ k ≠ gs) shV shs := Kd.N_mono h.shp (fun k hk => ⟨.inl hk.1, hk.2⟩)
theorem pn_new {w : World} {base g gw gs n : Nat} {P : Nat → Prop} {ws : List Int} {sts : List Bool} {nx mv : Int} {shV : Value} {shs : List S65} (h : AM w base P g gw gs n ws sts nx mv shV shs) : ∀ k, w.heap.size ≤ k → PN P w k ∧ k ≠ g ∧ k ≠ gw ∧ k ≠ gs := fun k hk => ⟨.inr hk, by have := h.box.lt; omega, by have := h.wds.lt; omega, by have := h.stb.lt; omega⟩
theorem am_box1 {w w1 : World} {base g gw gs n : Nat} {P : Nat → Prop} {ws : List Int} {sts : List Bool} {nx mv : Int} {shV : Value} {shs : List S65} (h : AM w base P g gw gs n ws sts nx mv shV shs) (hg1 : w.grownBy w1 shV.ownBlock) : Blk w1 g 63 (arC gw gs n nx shV mv) :=
  h.box.kept hg1 (fun e => (h.shp.1 g e.symm).2.1 rfl)
set_option maxHeartbeats 8000000 in
set_option maxRecDepth 100000 in
theorem array_calls {w : World} {base g most : Nat} {P : Nat → Prop} {shs : List S65} {T : List Thg} {mv : Int} (h : AS w base P g most shs T mv) (hbase : base ≤ w.heap.size) (hl : shs.length ≤ 100000) (kind : Int) :
    Calls Try.prog 11 #[.pointer (some ⟨g, 0, none⟩), .int .i64 kind] w fun e w' => e = .returned (.int .i64 (shs.length : Int)) ∧ AS w' base (PN P w) g most (shs ++ [⟨[], true, kind == 3⟩]) T mv ∧ Chg P w w' := by
  obtain ⟨gw, gs, shV, w0, junk, hM⟩ := h.mem
  have HM := Aside0.mk hM
  have HS := Aside0.mk h
  have c3 := hM.c3
  have hw1 : ((shs ++ [(⟨[], true, kind == 3⟩ : S65)]).length : Int) = (shs.length : Int) + 1 := by simp
  clear h hM
  go_enter Try.func11, Try.ntmps11
  go_wp2_with (first | ((with_reducible refine gate_dst (N := 16) rfl ?_); at_builtin; refine Kd.N_append k65 (w0 := w) base rfl (.tmp 11) (.tmp 15) 61 65 (.agg #[.slice none 0 0, .bool false, .bool false]) 32 rfl Try.underlying61 info65b rfl (by decide) (by decide) shV shs ⟨[], true, kind == 3⟩ [.slice none 0 0, .bool true, .bool (kind == 3)] _ (fun _ => False) rfl rfl (fk_nil _ _ _ _) (fun k hk => hk.elim) (pn_new HM.out) (pn_own HM.out) (Below.refl _ _) hbase (by omega) ?_; intro v1 w1 hn1 _ hg1 _; obtain ⟨A1, c1, rfl⟩ := Kd.N_slice hn1; rw [show (shs ++ [(⟨[], true, kind == 3⟩ : S65)]).length = shs.length + 1 by simp] at hn1; have HN := Aside0.mk hn1; have HG := Aside0.mk hg1; clear hn1 hg1 c3) | ((with_reducible refine gate_store (t := 61) (p := 18) (v := .tmp 16) rfl ?_); refine cell_store rfl 61 (.tmp 18) (.tmp 16) rfl oi61 (q := 3) (v := .slice A1 (shs.length + 1) c1) rfl rfl rfl (am_box1 HM.out HG.out) (show (3 : Nat) < 5 by decide) ?_; intro w2 hb2 hg2 _; have HM2 := Aside0.mk (am_tell HM.out (fun k hk => .inl hk) HN.out HG.out hb2 hg2); have HCH := Aside0.mk (chg_tell HM.out HG.out hg2); have c3 := HM2.out.c3; clear hb2 hg2))
  (try go_ret)
  exact ⟨by simp, as_tell HS.out (by simp) HM2.out, HCH.out⟩
theorem info4c : (Try.prog.info? 4).map (fun i => (i.zero, i.size, i.bytes)) = some (some (.bool false), 1, 1) := by kernel_rfl
theorem oi60 : (Try.prog.info? 60).map (·.size) = some 1 := by kernel_rfl
def bools (l : List Bool) : List Value := l.map Value.bool
structure OB (w wx : World) (b5 : Nat) (v : Value) (l : List Bool) : Prop where
  bel : Below w.heap.size w wx
  box : Blk wx b5 65 #[v, .bool false, .bool false]
  own : wx.ownsRow w.heap.size 4 1 v l.length (bools l)
  ge : w.heap.size ≤ b5
theorem ob_put {w wx w2 w3 : World} {b5 : Nat} {v v2 : Value} {l : List Bool} {x : Bool} {o : Obj} {cs : List Value} (h : OB w wx b5 v l) (hc : cs = [.bool x]) (ho : w2.ownsRow w.heap.size 4 1 v2 (l.length + 1) (bools l ++ cs)) (hg : (wx.alloc o).grownBy w2 v.ownBlock) (hb : Blk w3 b5 65 #[v2, .bool false, .bool false]) (hg2 : w2.grownBy w3 (some b5)) : OB w w3 b5 v2 (l ++ [x]) := by
  subst hc
  have e : bools (l ++ [x]) = bools l ++ [.bool x] := by unfold bools; simp
  refine ⟨?_, hb, ?_, h.ge⟩
  · have h1 := ((h.bel.alloc h.bel.size o).grown hg (Nat.le_trans h.bel.size (by simp)) (fun k hk => (own_row_lt h.own k hk).2))
    exact h1.grown hg2 h1.size (fun k hk => by cases hk; exact h.ge)
  · rw [e, List.length_append]
    have h3 : Blk w2 b5 65 _ := (h.box.alloc o).kept hg (own_ne_cells h.own h.box (by decide))
    exact own_kept ho hg2 (fun k hk e => own_ne_cells ho h3 (by decide) (e.symm.trans hk.symm))
theorem ob_box1 {w wx w2 : World} {b5 : Nat} {v : Value} {l : List Bool} {o : Obj} (h : OB w wx b5 v l) (hg : (wx.alloc o).grownBy w2 v.ownBlock) : Blk w2 b5 65 #[v, .bool false, .bool false] :=
  (h.box.alloc o).kept hg (own_ne_cells h.own h.box (by decide))
theorem ob_FK {w wx : World} {b5 : Nat} {v : Value} {L : List Bool} (h : OB w wx b5 v L) : Kd.FK k65 wx (fun k => w.heap.size ≤ k) ⟨L, false, false⟩ [v, .bool false, .bool false] := by
  have h2 := Kd.R_of_own (enc := Value.bool) (h1 := fun _ => rfl) (ok := fun k => w.heap.size ≤ k) h.own (fun k hk => (own_row_lt h.own k hk).2)
  have h3 := Kd.R_N h2
  obtain ⟨A, c, rfl⟩ := Kd.N_slice h3
  exact k65_mkF wx _ ⟨L, false, false⟩ (Kd.N_reads' h3).2.1 (Kd.N_F h3)
theorem obj_step {ops : Array Oper} {o : Oper} {a : Act} {Kc : Act → World → Prop} {Q' : Exit → Act → World → Prop} {w wr W : World} {base g gw gs n : Nat} {P : Nat → Prop} {ws : List Int} {sts : List Bool} {nx mv : Int} {shV : Value} {shs : List S65} {b5 : Nat} {v : Value} {L : List Bool}
    (h : AM w base P g gw gs n ws sts nx mv shV shs) (hO : OB w wr b5 v L) (hbase : base ≤ w.heap.size) (hl : shs.length ≤ 100000) (hgd : o.guard = none) (s x : Operand) (ho : o.op = .call { callee := .builtin .append, args := #[s, x], argTypes := #[61, 61] })
    (hb : Below wr.heap.size wr W) (hs : a.eval s = shV) (hx : a.eval x = .slice (some ⟨W.heap.size, 0, none⟩) 1 1)
    (hK : ∀ A1 c1 w1, Kd.N k65 65 w1 base (fun k => PN P w k ∧ k ≠ g ∧ k ≠ gw ∧ k ≠ gs) (.slice A1 (shs.length + 1) c1) (shs ++ [⟨L, false, false⟩]) → W.grownBy w1 shV.ownBlock → Kc (a.put o.dst (.slice A1 (shs.length + 1) c1)) w1) :
    if Region.wanted o (yielded ops a.tmps) = true then Oper.wp Try.prog o a (W.alloc (.cells #[v, .bool false, .bool false] 65)) Kc Q' else Kc (a.put o.dst undef) (W.alloc (.cells #[v, .bool false, .bool false] 65)) := by
  have hBW := below_step hO.bel hb
  have h2 := Kd.N_below (pn_own h) hBW
  have hfk : Kd.FK k65 W (fun k => w.heap.size ≤ k ∧ k < wr.heap.size) ⟨L, false, false⟩ [v, .bool false, .bool false] := by
    have h3 : Kd.FK k65 wr (fun k => w.heap.size ≤ k ∧ k < wr.heap.size) ⟨L, false, false⟩ [v, .bool false, .bool false] := Foot.bound (ob_FK hO)
    exact Foot.step h3 (fun k _ hlt => hb.block k hlt)
  refine Kd.N_append_step k65 (w0 := W) base (by simp [Region.wanted, hgd]) s x 61 65 (.agg #[.slice none 0 0, .bool false, .bool false]) 32 ho Try.underlying61 info65b rfl (by decide) (by decide) shV shs ⟨L, false, false⟩ [v, .bool false, .bool false] (fun k => PN P w k ∧ k ≠ g ∧ k ≠ gw ∧ k ≠ gs) _ hs hx hfk (fun k hk => ?_) (fun k hk => ?_) h2 (Below.refl _ _) (Nat.le_trans hbase hBW.size) (by omega) ?_
  · refine ⟨pn_new h k hk.1, fun e => ?_⟩
    have := Kd.N_lt h.shp k e.symm
    omega
  · exact pn_new h k (Nat.le_trans hBW.size hk)
  · intro v1 w1 hn _ hg _
    obtain ⟨A1, c1, rfl⟩ := Kd.N_slice hn
    rw [show (shs ++ [(⟨L, false, false⟩ : S65)]).length = shs.length + 1 by simp] at hn ⊢
    exact hK A1 c1 w1 hn hg
theorem obj_box {w wr W w9 : World} {base g gw gs n : Nat} {P : Nat → Prop} {ws : List Int} {sts : List Bool} {nx mv : Int} {shV : Value} {shs : List S65} {b5 : Nat} {v : Value} {L : List Bool}
    (h : AM w base P g gw gs n ws sts nx mv shV shs) (hO : OB w wr b5 v L) (hb : Below wr.heap.size wr W) (hg : W.grownBy w9 shV.ownBlock) : Blk w9 g 63 (arC gw gs n nx shV mv) ∧ Blk w9 b5 65 #[v, .bool false, .bool false] := by
  refine ⟨am_box1 (h.below (below_step hO.bel hb)) hg, (hO.box.below hb).kept hg (fun e => ?_)⟩
  have := Kd.N_lt h.shp b5 e.symm
  have := hO.ge
  omega
theorem obj_keep {w wr W w9 : World} {base g gw gs n : Nat} {P : Nat → Prop} {ws : List Int} {sts : List Bool} {nx mv : Int} {shV : Value} {shs : List S65} {b5 : Nat} {v : Value} {L : List Bool}
    (h : AM w base P g gw gs n ws sts nx mv shV shs) (hO : OB w wr b5 v L) (hb : Below wr.heap.size wr W) (hg : W.grownBy w9 shV.ownBlock) : w9.cell? ⟨g, 3, none⟩ = some shV ∧ w9.cell? ⟨b5, 0, none⟩ = some v ∧ w9.cell? ⟨b5, 1, none⟩ = some (.bool false) ∧ w9.cell? ⟨b5, 2, none⟩ = some (.bool false) ∧ w9.frozen? ⟨g, 3, none⟩ = false := by
  obtain ⟨h1, h2⟩ := obj_box h hO hb hg
  exact ⟨h1.cell rfl, h2.cell rfl, h2.cell rfl, h2.cell rfl, frozen_of_row _ _ _ _ _ h1⟩
theorem obj_keep0 {w wr W : World} {base g gw gs n : Nat} {P : Nat → Prop} {ws : List Int} {sts : List Bool} {nx mv : Int} {shV : Value} {shs : List S65} {b5 : Nat} {v : Value} {L : List Bool}
    (h : AM wr base P g gw gs n ws sts nx mv shV shs) (hO : OB w wr b5 v L) (hb : Below wr.heap.size wr W) : W.cell? ⟨g, 3, none⟩ = some shV ∧ W.cell? ⟨b5, 0, none⟩ = some v ∧ W.cell? ⟨b5, 1, none⟩ = some (.bool false) ∧ W.cell? ⟨b5, 2, none⟩ = some (.bool false) ∧ W.frozen? ⟨g, 3, none⟩ = false :=
  ⟨(h.below hb).c3, (hO.box.below hb).cell rfl, (hO.box.below hb).cell rfl, (hO.box.below hb).cell rfl, frozen_of_row _ _ _ _ _ (h.below hb).box⟩
set_option maxHeartbeats 8000000 in
set_option maxRecDepth 100000 in
theorem object_calls {w : World} {base g most : Nat} {P : Nat → Prop} {shs : List S65} {T : List Thg} {mv : Int} (h : AS w base P g most shs T mv) (hbase : base ≤ w.heap.size) (hl : shs.length ≤ 100000) {A : Option Addr} {c : Nat} {ks : List Int} (hr : Kd.C (Kd.int .i64) w A ks.length ks) (hc : ks.length ≤ c) (hk : ks.length ≤ 1000) :
    Calls Try.prog 15 #[.pointer (some ⟨g, 0, none⟩), .slice A ks.length c] w fun e w' => e = .returned (.int .i64 (shs.length : Int)) ∧ AS w' base (PN P w) g most (shs ++ [⟨ks.map (· == 3), false, false⟩]) T mv ∧ Chg P w w' := by
  obtain ⟨gw, gs, shV, w0, junk, hM⟩ := h.mem
  have HM := Aside0.mk hM
  have HS := Aside0.mk h
  have HR := Aside0.mk hr
  have HO : Aside0 (OB w (w.alloc (.cells #[.slice none 0 0, .bool false, .bool false] 65)) w.heap.size (.slice none 0 0) []) := ⟨⟨below_alloc (Below.refl _ _) _, Blk.made _ _ _, ⟨by simp [bools], .inl ⟨rfl, rfl⟩⟩, Nat.le_refl _⟩⟩
  clear h hM hr
  go_enter Try.func15, Try.ntmps15
  go_wp2_with fail
  generalize hb5 : w.heap.size = b5 at *
  go_loopw [13] (fun v13 wr => ∃ (i : Nat) (v : Value), i ≤ ks.length ∧ v13 = .int .i64 i ∧ Aside0 (OB w wr b5 v ((ks.take i).map (· == 3)))) (fun v13 _ => ks.length - (intOf v13).toNat)
  case atStart => exact ⟨0, _, Nat.zero_le _, rfl, HO⟩
  case round =>
    clear HO
    obtain ⟨i, v, hi, rfl, HO⟩ := hrel
    by_cases hlt : i < ks.length
    · have hlt' : (i : Int) < (ks.length : Int) := by omega
      obtain ⟨ad, rfl, hcx⟩ := Kd.at_int (Kd.C_below HR.out HO.out.bel) (i : Int) (by omega) hlt'
      rw [Int.toNat_natCast] at hcx
      obtain ⟨k, hkk⟩ : ∃ k, k = rd ks (i : Int) := ⟨_, rfl⟩
      rw [← hkk] at hcx
      have HTK : Aside0 (ks.take (i + 1) = ks.take i ++ [k]) := ⟨by rw [hkk]; unfold rd; rw [Int.toNat_natCast, List.take_succ_eq_append_getElem hlt, List.getD_eq_getElem?_getD, List.getElem?_eq_getElem hlt]; rfl⟩
      clear hkk
      have HLL : Aside0 (((ks.take i).map (· == 3)).length ≤ 1000) := ⟨by rw [List.length_map, List.length_take]; omega⟩
      have HTM : Aside0 ((ks.take (i + 1)).map (· == 3) = (ks.take i).map (· == 3) ++ [k == 3]) := ⟨by rw [HTK.out]; simp⟩
      clear HTK
      generalize (ks.take i).map (· == 3) = L at *
      have x0 := HO.out.box.cell (o := 0) (v := v) rfl
      go_wp2_with (first | ((with_reducible refine gate_dst (N := 22) rfl ?_); at_builtin; refine app_new rfl (.tmp 18) (.tmp 21) 60 4 (.bool false) 1 1 rfl Try.underlying60 info4c rfl (by decide) rfl HO.out.own _ 1 rfl rfl (fun u hu => by simp at hu; subst hu; rfl) (by have := HLL.out; omega) (by have := HLL.out; omega) HO.out.bel.size ?_; intro v2 w2 ho hg; obtain ⟨A2, c2, rfl⟩ := own_slice' ho; have HOW := Aside0.mk ho; have HG := Aside0.mk hg; clear ho hg x0) | ((with_reducible refine gate_store (t := 60) (p := 23) (v := .tmp 22) rfl ?_); refine cell_store rfl 60 (.tmp 23) (.tmp 22) rfl oi60 (q := 0) (v := .slice A2 (L.length + 1) c2) rfl rfl rfl (ob_box1 HO.out HG.out) (show (0 : Nat) < 3 by decide) ?_; intro w3 hb3 hg3 _; have HO3 := Aside0.mk (ob_put (x := k == 3) HO.out rfl HOW.out HG.out hb3 hg3); clear hb3 hg3))
      go_roundw
      case rel => exact ⟨i + 1, _, by omega, by go_num, by rw [HTM.out]; exact HO3⟩
      case measure => (simp [intOf]; try omega)
    · have hlt' : ¬ (i : Int) < (ks.length : Int) := by omega
      obtain rfl : i = ks.length := by omega
      rw [List.take_length] at HO
      go_wp2_with fail
      have HMr := Aside0.mk (HM.out.below (by rw [hb5]; exact hb5 ▸ HO.out.bel))
      obtain ⟨A1, c1, rfl⟩ := Kd.N_slice HMr.out.shp
      generalize hL : ks.map (· == 3) = L at *
      have x0 := HO.out.box.cell (o := 0) (v := v) rfl
      have x1 := HO.out.box.cell (o := 1) (v := .bool false) rfl
      have x2 := HO.out.box.cell (o := 2) (v := .bool false) rfl
      have c3 := HMr.out.c3
      have hk0 := obj_keep0 (W := (wr.alloc (.cells #[v, .bool false, .bool false] 65)).drew) HMr.out HO.out (below_drew (below_alloc (Below.refl _ _) _))
      have f3 := frozen_of_row _ _ 3 _ _ HMr.out.box
      go_region_law (first | (refine obj_step (W := wr.drew) HM.out HO.out (hb5.symm ▸ hbase) hl (by rfl) (.tmp 29) (.tmp 31) (by rfl) (below_drew (Below.refl _ _)) (by rfl) (by rfl) ?_; intro A9 c9 w9 hn9 hg9; obtain ⟨k0, k1, k2, k3, k4⟩ := obj_keep HM.out HO.out (below_drew (Below.refl _ _)) hg9))
      all_goals
        obtain ⟨hb2, hg2, _⟩ := setCell_blk (q := 3) (v := .slice A9 (shs.length + 1) c9) (obj_box HM.out HO.out (below_drew (Below.refl _ _)) hg9).1 (show (3 : Nat) < 5 by decide)
        have HM2 := Aside0.mk (am_tell (Q := PN P w) (HMr.out.below (below_drew (Below.refl _ _))) (fun k hk => .inl hk) hn9 hg9 hb2 hg2)
        have HCH := Aside0.mk ((Chg.of_below (P := P) (below_step HO.out.bel (below_drew (Below.refl _ _)))).trans (chg_tell (HMr.out.below (below_drew (Below.refl _ _))) hg9 hg2) (fun k hk => .inl hk))
        clear hn9 hg9 hb2 hg2 k0 k1 k2 k3 k4 hk0 f3 c3
        generalize w9.setCell ⟨g, 3, none⟩ (.slice A9 (shs.length + 1) c9) = w3 at *
        have c3 := HM2.out.c3
        go_wp2_with fail
        (try go_ret)
        subst hL
        exact ⟨by simp, as_tell HS.out (by show (ks.map _).length ≤ 1000; rw [List.length_map]; exact hk) HM2.out, HCH.out⟩
end Go.Proofs.Ytibhjlmffgabgaa.PAll
