import Derived.Test.YtibhjlmffgabgaaZRunSteps
import Derived.Test.YtibhjlmffgabgaaZWalkApart
import Derived.Test.YtibhjlmffgabgaaZWalkClears
namespace Go.Proofs.Ytibhjlmffgabgaa.PAll
open Go.RowKit Go.Proofs.YtibhjlmffgabgaaW.PrintWords Go.Proofs.YtibhjlmffgabgaaW.PrintLast Go.Proofs.YtibhjlmffgabgaaW.PrintMore
open Go.Proofs.Ytibhjlmffgabgaa.MapInt
set_option linter.unusedVariables false
set_option linter.unusedSimpArgs false
theorem rs_start {W w1 w2 w3 : World} {ga g m : Nat} {P : Nat → Prop} (h1 : Below W.heap.size W w1) (ha : AZ w2 P ga m [] [] 0) (h2 : Below w1.heap.size w1 w2) (hp : ∀ k, P k → w1.heap.size ≤ k) (hm : 1 ≤ m ∧ m ≤ 65536)
    (hr : RM w3 w2.heap.size (fun k => k = w2.heap.size) (fun k => k < W.heap.size) g (m : Int) [] [] 0 (.slice none 0 0) (.slice none 0 0)) (h3 : Below w2.heap.size w2 w3) : RS none W w3 ga g m (cvt []) (([] : List TH).map (·.t)) 0 [] [] 0 := by
  have s1 := h1.size
  have s2 := h2.size
  refine ⟨P, fun k => k = w2.heap.size, fun k => k < W.heap.size, w2.heap.size, _, _, ⟨ha.below h3, hr, rf_new (by omega), h3.size, fun k hk e => ?_, fun k hk hw => ?_, fun k hk => ?_, fun k hk => ?_, below_step (below_step h1 h2) h3⟩, fun k hk => hk, fun b CS e => by cases e⟩
  · have := ha.lt k hk; omega
  · have := hp k hk; omega
  · have := hp k hk; omega
  · omega
def boxC (x : S35) (A1 : Option Addr) (c1 : Nat) (A6 : Option Addr) (c6 : Nat) : Array Value := #[.int .i64 x.f0, .slice A1 x.f1.length c1, .int .i64 x.f2, .int .i64 x.f3, .int .i64 x.f4, .int .i64 x.f5, .slice A6 x.f6.length c6]
structure RR (W w : World) (ga g m : Nat) (ls : List SH) (ts : List TH) (mv : Int) (b : Nat) (CS : Array Value) : Prop where
  out : RS (some (b, CS)) W w ga g m (cvt ls) (ts.map (·.t)) mv ls ts mv
structure MP (b : Nat) (CS : Array Value) (M : World → Prop) : Prop where
  bx : ∀ w, M w → Blk w b 35 CS
  bel : ∀ w w', M w → Below w.heap.size w w' → M w'
section
variable {W w w2 : World} {ga g m b : Nat} {CS : Array Value} {ls : List SH} {ts : List TH} {mv : Int}
theorem RR.below (h : RR W w ga g m ls ts mv b CS) (hb : Below w.heap.size w w2) : RR W w2 ga g m ls ts mv b CS := ⟨h.out.below hb⟩
theorem RR.bx (h : RR W w ga g m ls ts mv b CS) : Blk w b 35 CS := h.out.bxb
theorem mp_rs {shs : List S65} {T : List Thg} {mva : Int} : MP b CS (fun w => RS (some (b, CS)) W w ga g m shs T mva ls ts mv) := ⟨fun w h => h.bxb, fun w w' h hb => h.below hb⟩
structure TL (W : World) (ga g m : Nat) (ls : List SH) (ts : List TH) (mv : Int) (b : Nat) (CS : Array Value) (x4 x3 fr gr : Int) : Prop where
  ta : ∀ w, RR W w ga g m ls ts mv b CS → Calls Try.prog 13 #[.pointer (some ⟨ga, 0, none⟩)] w fun e w' => e = .returned (.int .i64 fr) ∧ RR W w' ga g m ls ts mv b CS
  tb : ∀ w, RR W w ga g m ls ts mv b CS → Calls Try.prog 31 #[.pointer (some ⟨g, 0, none⟩)] w fun e w' => e = .returned (.int .i64 fr) ∧ RR W w' ga g m ls ts mv b CS
  tc : ∀ w, RR W w ga g m ls ts mv b CS → Calls Try.prog 32 #[.pointer (some ⟨ga, 0, none⟩)] w fun e w' => e = .returned (.int .i64 mv) ∧ RR W w' ga g m ls ts mv b CS
  td : ∀ w, RR W w ga g m ls ts mv b CS → Calls Try.prog 20 #[.pointer (some ⟨ga, 0, none⟩), .int .i64 x4, .int .i64 x3] w fun e w' => e = .returned (.int .i64 gr) ∧ RR W w' ga g m ls ts mv b CS
  te : ∀ w, RR W w ga g m ls ts mv b CS → Calls Try.prog 33 #[.pointer (some ⟨g, 0, none⟩), .int .i64 x4, .int .i64 x3] w fun e w' => e = .returned (.int .i64 gr) ∧ RR W w' ga g m ls ts mv b CS
theorem tl_mk (x4 x3 : Int) : ∃ fr gr, TL W ga g m ls ts mv b CS x4 x3 fr gr :=
  ⟨_, _, fun w h => (rs_free h.out).mono fun e w' ⟨e1, h1⟩ => ⟨e1, ⟨h1⟩⟩, fun w h => (rs_rfree h.out).mono fun e w' ⟨e1, h1⟩ => ⟨e1, ⟨h1⟩⟩, fun w h => (rs_moved h.out).mono fun e w' ⟨e1, h1⟩ => ⟨e1, ⟨h1⟩⟩, fun w h => (rs_get h.out x4 x3).mono fun e w' ⟨e1, h1⟩ => ⟨e1, ⟨h1⟩⟩, fun w h => (rs_rget h.out x4 x3).mono fun e w' ⟨e1, h1⟩ => ⟨e1, ⟨h1⟩⟩⟩
variable {x : S35} {A1 : Option Addr} {c1 : Nat} {A6 : Option Addr} {c6 : Nat}
theorem cs8 (h : RR W w ga g m ls ts mv b (boxC x A1 c1 A6 c6)) : w.cell? ⟨b, 0, none⟩ = some (.int .i64 x.f0) ∧ w.cell? ⟨b, 1, none⟩ = some (.slice A1 x.f1.length c1) ∧ w.cell? ⟨b, 2, none⟩ = some (.int .i64 x.f2) ∧ w.cell? ⟨b, 3, none⟩ = some (.int .i64 x.f3) ∧ w.cell? ⟨b, 4, none⟩ = some (.int .i64 x.f4) ∧ w.cell? ⟨b, 5, none⟩ = some (.int .i64 x.f5) ∧ w.cell? ⟨b, 6, none⟩ = some (.slice A6 x.f6.length c6) ∧ w.cell? ⟨g, 3, none⟩ = some (.int .i64 mv) := by
  obtain ⟨h0, h1, h2, h3, h4, h5, h6⟩ := cs7 h.bx
  exact ⟨h0, h1, h2, h3, h4, h5, h6, h.out.cells.2⟩
theorem k0_mk (hl : ls.length ≤ 120) (hx : CW W x A1 c1 A6 c6) : ∃ (M : World → Prop) (n : Int) (ls2 : List SH), ls2.length = ls.length + 1 ∧ MP b CS M ∧
    (∀ w, RR W w ga g m ls ts mv b CS → Calls Try.prog 15 #[.pointer (some ⟨ga, 0, none⟩), .slice A1 x.f1.length c1] w fun e w' => e = .returned (.int .i64 n) ∧ M w') ∧
    (∀ w, M w → Calls Try.prog 24 #[.pointer (some ⟨g, 0, none⟩), .agg #[.slice A1 x.f1.length c1, .bool false]] w fun e w' => e = .returned (.int .i64 n) ∧ RR W w' ga g m ls2 ts mv b CS) := by
  refine ⟨fun w => RS (some (b, CS)) W w ga g m (cvt (ls ++ [⟨⟨x.f1, false⟩, A1, c1⟩])) (ts.map (·.t)) mv ls ts mv, ls.length, ls ++ [⟨⟨x.f1, false⟩, A1, c1⟩], by simp, mp_rs, fun w h => ?_, fun w h => ?_⟩
  · have h1 := rs_object h.out (by rw [cv_len]; omega) hx.r.r1 (fun k hk => hk) hx.r.l1 (by have := hx.r.m1; omega)
    rw [cv_len] at h1
    rw [cvt_obj _ _ rfl]
    exact h1
  · exact (rs_tell h (by omega) hx.r.r1 hx.r.l1 (by have := hx.r.m1; omega)).mono fun e w' ⟨e1, h1⟩ => ⟨e1, ⟨h1⟩⟩
theorem k1_mk (hl : ls.length ≤ 120) (k : Int) : ∃ (M : World → Prop) (RL ML : Nat → World → Prop) (n : Int) (ls2 : Nat → List SH), (∀ q, (ls2 q).length = ls.length + 1) ∧ MP b CS M ∧ (∀ q, MP b CS (ML q)) ∧ (∀ q, MP b CS (RL q)) ∧
    (∀ w, RR W w ga g m ls ts mv b CS → Calls Try.prog 11 #[.pointer (some ⟨ga, 0, none⟩), .int .i64 k] w fun e w' => e = .returned (.int .i64 n) ∧ M w') ∧
    (∀ w, RR W w ga g m ls ts mv b CS → RL w.heap.size (w.alloc (.cells #[.int .i64 k] 3))) ∧
    (∀ w, M w → ML w.heap.size (w.alloc (.cells #[.int .i64 k] 3))) ∧
    (∀ q w, RL q w → Calls Try.prog 11 #[.pointer (some ⟨ga, 0, none⟩), .int .i64 k] w fun e w' => e = .returned (.int .i64 n) ∧ ML q w') ∧
    (∀ q w, ML q w → Calls Try.prog 24 #[.pointer (some ⟨g, 0, none⟩), .agg #[.slice (some ⟨q, 0, none⟩) 1 1, .bool true]] w fun e w' => e = .returned (.int .i64 n) ∧ RR W w' ga g m (ls2 q) ts mv b CS) := by
  have hlen : (cvt ls).length ≤ 100000 := by rw [cv_len]; omega
  have hcv : ∀ q, cvt (ls ++ [⟨⟨[k], true⟩, some ⟨q, 0, none⟩, 1⟩]) = cvt ls ++ [⟨[], true, k == 3⟩] := fun q => cvt_arr _ _ _ rfl rfl
  refine ⟨fun w => RS (some (b, CS)) W w ga g m (cvt ls ++ [⟨[], true, k == 3⟩]) (ts.map (·.t)) mv ls ts mv, fun q w => RSL (some (b, CS)) W w ga g m (cvt ls) (ts.map (·.t)) mv ls ts mv q k, fun q w => RSL (some (b, CS)) W w ga g m (cvt ls ++ [⟨[], true, k == 3⟩]) (ts.map (·.t)) mv ls ts mv q k, ls.length, fun q => ls ++ [⟨⟨[k], true⟩, some ⟨q, 0, none⟩, 1⟩], fun q => by simp, mp_rs, fun q => ⟨fun w h => h.rs.bxb, fun w w' h hb => h.below hb⟩, fun q => ⟨fun w h => h.rs.bxb, fun w w' h hb => h.below hb⟩, fun w h => ?_, fun w h => h.out.lit k, fun w h => h.lit k, fun q w h => ?_, fun q w h => ?_⟩
  · have h1 := rs_array h.out hlen k
    rw [cv_len] at h1
    exact h1
  · have h1 := rs_arrayL h hlen k
    rw [cv_len] at h1
    exact h1
  · refine (rs_tellA h (by omega)).mono fun e w' ⟨e1, h1⟩ => ⟨e1, ⟨?_⟩⟩
    rw [hcv]; exact h1
theorem k2_mk (s n : Int) : ∃ (M : World → Prop) (sz mk : Int), MP b CS M ∧
    (∀ w, RR W w ga g m ls ts mv b CS → Calls Try.prog 25 #[.pointer (some ⟨ga, 0, none⟩), .int .i64 s, .int .i64 n] w fun e w' => e = .returned (.int .i64 sz) ∧ RR W w' ga g m ls ts mv b CS) ∧
    (∀ w, RR W w ga g m ls ts mv b CS → Calls Try.prog 26 #[.pointer (some ⟨g, 0, none⟩), .int .i64 s, .int .i64 n] w fun e w' => e = .returned (.int .i64 sz) ∧ RR W w' ga g m ls ts mv b CS) ∧
    (∀ w, RR W w ga g m ls ts mv b CS → Calls Try.prog 12 #[.pointer (some ⟨ga, 0, none⟩), .int .i64 s, .int .i64 n] w fun e w' => e = .returned (.int .i64 mk) ∧ M w') ∧
    (∀ w, M w → Calls Try.prog 27 #[.pointer (some ⟨g, 0, none⟩), .int .i64 s, .int .i64 n] w fun e w' => e = .returned (.int .i64 mk) ∧ ∃ ts2, RR W w' ga g m ls ts2 mv b CS) :=
  ⟨fun w => RS (some (b, CS)) W w ga g m (cvt ls) (makeF m (cvt ls) (ts.map (·.t)) s n).1 mv ls ts mv, sizeF (cvt ls) s n, (makeF m (cvt ls) (ts.map (·.t)) s n).2, mp_rs, fun w h => (rs_size h.out s n).mono fun e w' ⟨e1, h1⟩ => ⟨e1, ⟨h1⟩⟩, fun w h => (rs_rsize h.out s n).mono fun e w' ⟨e1, h1⟩ => ⟨e1, ⟨h1⟩⟩, fun w h => rs_make h.out s n, fun w h => (rs_rmake h s n).mono fun e w' ⟨e1, ts2, h1, h2⟩ => ⟨e1, ts2, ⟨by rw [h1]; exact h2⟩⟩⟩
theorem k3_mk (a n y : Int) (hy : inR y) : ∃ (M : World → Prop), MP b CS M ∧
    (∀ w, RR W w ga g m ls ts mv b CS → Calls Try.prog 16 #[.pointer (some ⟨ga, 0, none⟩), .int .i64 a, .int .i64 n, .int .i64 y] w fun e w' => e = .returned (.tuple #[]) ∧ M w') ∧
    (∀ w, M w → Calls Try.prog 28 #[.pointer (some ⟨g, 0, none⟩), .int .i64 a, .int .i64 n, .int .i64 y] w fun e w' => e = .returned (.tuple #[]) ∧ ∃ ts2, RR W w' ga g m ls ts2 mv b CS) :=
  ⟨fun w => RS (some (b, CS)) W w ga g m (cvt ls) (setT (cvt ls) (ts.map (·.t)) 1 a n y) mv ls ts mv, mp_rs, fun w h => rs_set h.out a n y hy, fun w h => (rs_rset h a n y hy).mono fun e w' ⟨e1, ts2, h1, h2⟩ => ⟨e1, ts2, ⟨by rw [h1]; exact h2⟩⟩⟩
theorem k4_mk (hmv : 0 ≤ mv ∧ mv ≤ 1000) (hx : CW W x A1 c1 A6 c6) : ∃ (M : Value → World → Prop) (M2 : Value → Value → World → Prop), (∀ v, MP b CS (M v)) ∧ (∀ v v2, MP b CS (M2 v v2)) ∧
    (∀ w, RR W w ga g m ls ts mv b CS → Calls Try.prog 14 #[.pointer (some ⟨ga, 0, none⟩), .slice A6 x.f6.length c6] w fun e w' => ∃ v, e = .returned v ∧ M v w') ∧
    (∀ v w, M v w → Calls Try.prog 29 #[.pointer (some ⟨g, 0, none⟩), .slice A6 x.f6.length c6] w fun e w' => ∃ v2, e = .returned v2 ∧ M2 v v2 w') ∧
    (∀ v v2 w, M2 v v2 w → Calls Try.prog 19 #[v, v2] w fun e w' => e = .returned (.bool true) ∧ ∃ ts2, RR W w' ga g m ls ts2 (mv + 1) b CS) := by
  refine ⟨fun v w => ∃ B, RSX (some (b, CS)) W w ga g m (cvt ls) (clrT (cvt ls) (rchB (cvt ls) (ts.map (·.t)) x.f6) (ts.map (·.t))) (mv + 1) ls ts mv B v (x.f6.map (ref1 (newF (cvt ls) (rchB (cvt ls) (ts.map (·.t)) x.f6) (ts.map (·.t))))), fun v v2 w => ∃ B B2 ts2, RR W w ga g m ls ts2 (mv + 1) b CS ∧ w.ownsRow B 3 1 v (x.f6.map (ref1 (newF (cvt ls) (rchB (cvt ls) (ts.map (·.t)) x.f6) (ts.map (·.t))))).length (nums .i64 (x.f6.map (ref1 (newF (cvt ls) (rchB (cvt ls) (ts.map (·.t)) x.f6) (ts.map (·.t)))))) ∧ w.ownsRow B2 3 1 v2 (x.f6.map (ref1 (newF (cvt ls) (rchB (cvt ls) (ts.map (·.t)) x.f6) (ts.map (·.t))))).length (nums .i64 (x.f6.map (ref1 (newF (cvt ls) (rchB (cvt ls) (ts.map (·.t)) x.f6) (ts.map (·.t)))))), fun v => ⟨fun w ⟨B, h⟩ => h.rs.bxb, fun w w' ⟨B, h⟩ hb => ⟨B, h.below hb⟩⟩, fun v v2 => ⟨fun w ⟨B, B2, ts2, h, _⟩ => h.bx, fun w w' ⟨B, B2, ts2, h, h1, h2⟩ hb => ⟨B, B2, ts2, h.below hb, own_move h1 (fun k hk => hb.block k (own_row_lt h1 k hk).1), own_move h2 (fun k hk => hb.block k (own_row_lt h2 k hk).1)⟩⟩, fun w h => ?_, fun v w ⟨B, h⟩ => ?_, fun v v2 w ⟨B, B2, ts2, h, h1, h2⟩ => ?_⟩
  · exact (rs_clear h.out (by omega) hx.r.r6 hx.r.l6 hx.r.in6 (by have := hx.r.m6; omega)).mono fun e w' ⟨v, e1, h1⟩ => ⟨v, e1, _, h1⟩
  · exact (rs_rclear h (by omega) hx.r.r6 (by have := hx.r.m6; omega)).mono fun e w' ⟨v2, ts2, e1, h1, h2, h3, h4⟩ => ⟨v2, e1, _, _, ts2, ⟨by rw [h1]; exact h2⟩, h3, by rw [List.length_map]; exact h4⟩
  · obtain ⟨A3, c3, rfl, hc3, hC3⟩ := own_C h1
    obtain ⟨A4, c4, rfl, hc4, hC4⟩ := own_C h2
    exact (ints_calls (by rw [List.length_map]; have := hx.r.m6; omega) hC3 hc3 hC4 hc4).mono fun e w' ⟨e1, hb⟩ => ⟨e1, ts2, h.below hb⟩
theorem k5_mk (hx : CW W x A1 c1 A6 c6) : ∃ (n : Int),
    (∀ w, RR W w ga g m ls ts mv b CS → Calls Try.prog 17 #[.pointer (some ⟨ga, 0, none⟩), .slice A6 x.f6.length c6] w fun e w' => e = .returned (.int .i64 n) ∧ RR W w' ga g m ls ts mv b CS) ∧
    (∀ w, RR W w ga g m ls ts mv b CS → Calls Try.prog 30 #[.pointer (some ⟨g, 0, none⟩), .slice A6 x.f6.length c6] w fun e w' => e = .returned (.int .i64 n) ∧ RR W w' ga g m ls ts mv b CS) :=
  ⟨_, fun w h => (rs_reached h.out hx.r.r6 hx.r.l6 hx.r.in6).mono fun e w' ⟨e1, h1⟩ => ⟨e1, ⟨h1⟩⟩, fun w h => (rs_rreach h.out hx.r.r6 (by have := hx.r.m6; omega)).mono fun e w' ⟨e1, h1⟩ => ⟨e1, ⟨h1⟩⟩⟩
end
end Go.Proofs.Ytibhjlmffgabgaa.PAll
