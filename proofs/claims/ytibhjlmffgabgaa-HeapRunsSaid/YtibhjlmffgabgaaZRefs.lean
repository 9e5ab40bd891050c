import Derived.Test.YtibhjlmffgabgaaZVisit
import Derived.Deep.RegionWith
namespace Go.Proofs.Ytibhjlmffgabgaa.PAll
open Go.RowKit Go.Proofs.YtibhjlmffgabgaaW.PrintWords Go.Proofs.YtibhjlmffgabgaaW.PrintLast Go.Proofs.YtibhjlmffgabgaaW.PrintMore
open Go.Proofs.Ytibhjlmffgabgaa.MapInt
set_option linter.unusedVariables false
set_option linter.unusedSimpArgs false
theorem results_ttc {P : Program} {fn : Func} {p u v : Tmp} {ty : TypeId} (h : fn.results = #[.tmp u, .tmp v, .cell p ty]) (tmps : Array Value) (w : World) (g : Nat) (t : TypeId) (cs : Array Value) (fr : Nat × Nat) (d : TypeDesc)
    (hp : tmps.getD p undef = .pointer (some ⟨g, 0, none⟩)) (hg : w.heap[g]? = some (.cells cs t fr))
    (hu : P.underlying ty = some d) (hd : (match d with | .struct _ | .array _ _ => true | _ => false) = true) (hi : (P.info? ty).map (·.size) = some cs.size) :
    (results fn tmps).run P w = .ok (.tuple #[tmps.getD u undef, tmps.getD v undef, .agg cs]) w := by
  have hp' : tmps[p]?.getD undef = .pointer (some ⟨g, 0, none⟩) := by simpa using hp
  simp [results, h, hp', asAddr, run_loadVar_row w g t ty cs fr d hg hu hd hi]
theorem info65 : (Try.prog.info? 65).map (·.size) = some 3 := by kernel_rfl
structure RB (w wx : World) (b6 b7 : Nat) (A0 : Option Addr) (fl c0 : Nat) (x1 x2 : Bool) : Prop where
  bel : Below w.heap.size w wx
  k7 : Blk wx b7 65 #[.slice A0 fl c0, .bool x1, .bool x2]
  k6 : Blk wx b6 65 #[.slice none 0 0, .bool false, .bool false]
  g6 : w.heap.size ≤ b6
theorem RB.below {w wx w2 : World} {b6 b7 : Nat} {A0 : Option Addr} {fl c0 : Nat} {x1 x2 : Bool} (h : RB w wx b6 b7 A0 fl c0 x1 x2) (hb : Below wx.heap.size wx w2) : RB w w2 b6 b7 A0 fl c0 x1 x2 :=
  ⟨below_step h.bel hb, h.k7.below hb, h.k6.below hb, h.g6⟩
theorem RB.cells {w wx : World} {b6 b7 : Nat} {A0 : Option Addr} {fl c0 : Nat} {x1 x2 : Bool} (h : RB w wx b6 b7 A0 fl c0 x1 x2) :
    wx.cell? ⟨b7, 0, none⟩ = some (.slice A0 fl c0) ∧ wx.cell? ⟨b7, 1, none⟩ = some (.bool x1) ∧ wx.cell? ⟨b7, 2, none⟩ = some (.bool x2) ∧ wx.cell? ⟨b6, 0, none⟩ = some (.slice none 0 0) ∧ wx.cell? ⟨b6, 1, none⟩ = some (.bool false) ∧ wx.cell? ⟨b6, 2, none⟩ = some (.bool false) ∧ wx.frozen? ⟨b6, 0, none⟩ = false ∧ wx.frozen? ⟨b6, 1, none⟩ = false ∧ wx.frozen? ⟨b6, 2, none⟩ = false :=
  ⟨h.k7.cell rfl, h.k7.cell rfl, h.k7.cell rfl, h.k6.cell rfl, h.k6.cell rfl, h.k6.cell rfl, frozen_of_row _ _ _ _ _ h.k6, frozen_of_row _ _ _ _ _ h.k6, frozen_of_row _ _ _ _ _ h.k6⟩
theorem rb_fin {w wx : World} {b6 b7 : Nat} {A0 : Option Addr} {fl c0 : Nat} {x1 x2 : Bool} (h : RB w wx b6 b7 A0 fl c0 x1 x2) :
    Blk (((wx.setCell ⟨b6, 0, none⟩ (.slice A0 fl c0)).setCell ⟨b6, 1, none⟩ (.bool x1)).setCell ⟨b6, 2, none⟩ (.bool x2)) b6 65 #[.slice A0 fl c0, .bool x1, .bool x2] ∧ Below w.heap.size w (((wx.setCell ⟨b6, 0, none⟩ (.slice A0 fl c0)).setCell ⟨b6, 1, none⟩ (.bool x1)).setCell ⟨b6, 2, none⟩ (.bool x2)) := by
  obtain ⟨a1, a2, _⟩ := setCell_blk (q := 0) (v := .slice A0 fl c0) h.k6 (show (0 : Nat) < 3 by decide)
  obtain ⟨d1, d2, _⟩ := setCell_blk (q := 1) (v := .bool x1) a1 (show (1 : Nat) < 3 by decide)
  obtain ⟨e1, e2, _⟩ := setCell_blk (q := 2) (v := .bool x2) d1 (show (2 : Nat) < 3 by decide)
  refine ⟨e1, ?_⟩
  have hg := (a2.trans d2).trans e2
  exact h.bel.grown hg h.bel.size (fun k hk => by cases hk; exact h.g6)
set_option maxHeartbeats 8000000 in
set_option maxRecDepth 100000 in
theorem refs_calls {W w : World} {base g most : Nat} {P : Nat → Prop} {shs : List S65} {T : List Thg} {mv : Int} (hA : AS W base P g most shs T mv) (hbW : Below W.heap.size W w) {a : Int} {t : Thg} (hf : findT shs T 1 a = some t) :
    Calls Try.prog 37 #[.pointer (some ⟨g, 0, none⟩), .int .i64 a] w fun e w' => ∃ A0 c0, e = .returned (.tuple #[.int .i64 (a + hd shs t), .int .i64 (t.xs.length : Int), .agg #[.slice A0 (shOf shs t.s).f0.length c0, .bool (shOf shs t.s).f1, .bool (shOf shs t.s).f2]]) ∧ (shOf shs t.s).f0.length ≤ c0 ∧ (∀ wx, Below W.heap.size W wx → Kd.bool.C wx A0 (shOf shs t.s).f0.length (shOf shs t.s).f0) ∧ Below w.heap.size w w' := by
  have h := hA.below hbW
  have HLN : Aside0 (∀ wx, Below w.heap.size w wx → Calls Try.prog 35 #[.pointer (some ⟨g, 0, none⟩), .int .i64 a] wx fun e w' => e = .returned (.int .i64 (t.xs.length : Int)) ∧ Below wx.heap.size wx w') := ⟨fun wx hb => by
    have := len_calls (h.below hb) a
    rw [hf] at this
    exact this⟩
  obtain ⟨gw, gs, shV, w0, junk, hMW⟩ := hA.mem
  have hM := hMW.below hbW
  have HMW := Aside0.mk hMW
  have HBW := Aside0.mk hbW
  obtain ⟨n, rfl, hn1, hn2, hn3, hn4⟩ := ws_thing (w0 := w0) (junk := junk) hf
  have hroom := h.room
  have hbnd := h.bnd
  have hok := h.things t hn3
  have e1 : ([w0] ++ T.flatMap (encT shs) ++ junk).getD n 0 = (t.s : Int) := hn4 0 _ (enc_s shs t)
  have hlt : n < most + 1 := by have := tsz_pos shs t; omega
  have hltI : (n : Int) < ((most + 1 : Nat) : Int) := by omega
  have hss : (t.s : Int) < (shs.length : Int) := by have := hok.1; omega
  have hss2 := hok.1
  have hm : (n : Int) ≤ 100000 := by omega
  have hhd : (hd shs t : Int) = if (shOf shs t.s).f1 = true then 2 else 1 := by unfold hd; split <;> rfl
  have HM := Aside0.mk hM
  have E1 := Aside0.mk e1
  clear h hA hMW hbW hM hf hn4 e1 hn3 hn2 hroom hok hbnd
  generalize [w0] ++ T.flatMap (encT shs) ++ junk = ws at *
  generalize most + 1 = m at *
  generalize (hd shs t : Int) = H at *
  obtain ⟨hh1, hh2⟩ : 1 ≤ H ∧ H ≤ 2 := by rw [hhd]; split <;> simp
  have HHD := Aside0.mk hhd
  clear hhd
  have HB6 : Aside0 (Blk (w.alloc (.cells #[.slice none 0 0, .bool false, .bool false] 65)) w.heap.size 65 #[.slice none 0 0, .bool false, .bool false]) := ⟨Blk.made _ _ _⟩
  have HB1 : Aside0 (Below w.heap.size w (w.alloc (.cells #[.slice none 0 0, .bool false, .bool false] 65))) := ⟨below_alloc (Below.refl _ _) _⟩
  go_enter Try.func37, Try.ntmps37
  go_wp2_with fail
  generalize w.alloc (.cells #[.slice none 0 0, .bool false, .bool false] 65) = w1 at *
  obtain ⟨ad, c, A0, cc0, rfl, y0, y1, y2, y3, y4⟩ := HMW.out.sh t.s hss2
  replace y0 := bcell HB1.out (bcell HBW.out y0)
  replace y1 := bcell HB1.out (bcell HBW.out y1)
  replace y2 := bcell HB1.out (bcell HBW.out y2)
  have HM2 := Aside0.mk (HM.out.below HB1.out)
  have c0 := HM2.out.c0
  have c3 := HM2.out.c3
  have c1 := HM2.out.cw hlt
  rw [E1.out] at c1
  generalize hfl : (shOf shs t.s).f0.length = fl at *
  go_region_held3 (fun w' => w'.cell? ⟨g, 0, none⟩ = some (.slice (some ⟨gw, 0, none⟩) m m) ∧ w'.cell? ⟨g, 3, none⟩ = some (.slice (some ad) shs.length c) ∧ w'.cell? ⟨gw, n, none⟩ = some (.int .i64 t.s) ∧ w'.cell? (ad.add (t.s * 3)) = some (.slice A0 fl cc0) ∧ w'.cell? ⟨(ad.add (t.s * 3)).block, (ad.add (t.s * 3)).off + 1, none⟩ = some (.bool (shOf shs t.s).f1) ∧ w'.cell? ⟨(ad.add (t.s * 3)).block, (ad.add (t.s * 3)).off + 2, none⟩ = some (.bool (shOf shs t.s).f2)) (go_keep) (fail)
  clear c0 c1 c3 y0 y1 y2
  have HRB : Aside0 (RB w ((w1.alloc (.cells #[.slice A0 fl cc0, .bool (shOf shs t.s).f1, .bool (shOf shs t.s).f2] 65)).drew) w.heap.size w1.heap.size A0 fl cc0 (shOf shs t.s).f1 (shOf shs t.s).f2) := ⟨⟨below_step HB1.out (below_drew (below_alloc (Below.refl _ _) _)), Blk.made _ _ _, HB6.out.below (below_drew (below_alloc (Below.refl _ _) _)), Nat.le_refl _⟩⟩
  have HC := Aside0.mk (fun wx (hb : Below W.heap.size W wx) => Kd.C_below y4 hb)
  have HY := Aside0.mk y3
  generalize ((w1.alloc (.cells #[.slice A0 fl cc0, .bool (shOf shs t.s).f1, .bool (shOf shs t.s).f2] 65)).drew) = w2 at *
  generalize hb1 : (shOf shs t.s).f1 = f1 at *
  generalize hb2 : (shOf shs t.s).f2 = f2 at *
  have HLR : Aside0 (∀ wx, RB w wx w.heap.size w1.heap.size A0 fl cc0 f1 f2 → Calls Try.prog 35 #[.pointer (some ⟨g, 0, none⟩), .int .i64 (n : Int)] wx fun e w' => e = .returned (.int .i64 (t.xs.length : Int)) ∧ Below wx.heap.size wx w') := ⟨fun wx h => HLN.out wx h.bel⟩
  generalize hw6 : w.heap.size = b6 at *
  generalize hw7 : w1.heap.size = b7 at *
  obtain ⟨z0, z1, z2, z3, z4, z5, f0, f1', f2'⟩ := HRB.out.cells
  go_wp2_with fail
  go_region_with (first
    | (go_at_call 48; refine (head_two _ _ _ _ _ _ HHD.out).mono ?_; rintro e w4 ⟨rfl, hb4⟩; first | have HR4 := Aside0.mk (HR5.out.below (below_step (by repeat' first | exact Below.refl _ _ | apply below_drew) hb4)) | have HR4 := Aside0.mk (HRB.out.below (below_step (by repeat' first | exact Below.refl _ _ | apply below_drew) hb4))
       obtain ⟨u0, u1, u2, u3, u4, u5, v0, v1, v2⟩ := HR4.out.cells)
    | (go_at_call 35; first | refine (HLR.out w4 HR4.out).mono ?_ | refine (HLR.out w2.drew (HRB.out.below (below_drew (Below.refl _ _)))).mono ?_ | refine (HLR.out w2 HRB.out).mono ?_
       rintro e w5 ⟨rfl, hb5⟩
       first | have HR5 := Aside0.mk (HR4.out.below (below_step (by repeat' first | exact Below.refl _ _ | apply below_drew) hb5)) | have HR5 := Aside0.mk (HRB.out.below (below_step (by repeat' first | exact Below.refl _ _ | apply below_drew) hb5))
       obtain ⟨s0, s1, s2, s3, s4, s5, t0, t1, t2⟩ := HR5.out.cells))
  all_goals (rw [show IntKind.i64.wrap ((n : Int) + H) = (n : Int) + H from IntWalk.i64_in _ (by omega)])
  all_goals (go_wp2_with fail)
  all_goals
    subst hw6
    subst hw7
    subst hb1
    subst hb2
    subst hfl
  all_goals first
    | (obtain ⟨q1, q2⟩ := rb_fin HR5.out
       refine bodyPost_ret (results_ttc (by rfl) _ _ w.heap.size 65 #[.slice A0 (shOf shs t.s).f0.length cc0, .bool (shOf shs t.s).f1, .bool (shOf shs t.s).f2] (0, 0) _ (by rfl) q1 Try.underlying65 rfl info65) (by rfl) ?_
       exact ⟨A0, cc0, rfl, HY.out, HC.out, q2⟩)
    | (obtain ⟨q1, q2⟩ := rb_fin HR4.out
       refine bodyPost_ret (results_ttc (by rfl) _ _ w.heap.size 65 #[.slice A0 (shOf shs t.s).f0.length cc0, .bool (shOf shs t.s).f1, .bool (shOf shs t.s).f2] (0, 0) _ (by rfl) q1 Try.underlying65 rfl info65) (by rfl) ?_
       exact ⟨A0, cc0, rfl, HY.out, HC.out, q2⟩)
end Go.Proofs.Ytibhjlmffgabgaa.PAll
