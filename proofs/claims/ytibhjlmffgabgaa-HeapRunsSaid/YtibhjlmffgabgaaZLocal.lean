import Derived.Test.YtibhjlmffgabgaaZMark
namespace Go.Proofs.Ytibhjlmffgabgaa.PAll
open Go.RowKit Go.Proofs.YtibhjlmffgabgaaW.PrintWords Go.Proofs.YtibhjlmffgabgaaW.PrintLast Go.Proofs.YtibhjlmffgabgaaW.PrintMore
open Go.Proofs.Ytibhjlmffgabgaa.MapInt
set_option linter.unusedVariables false
set_option linter.unusedSimpArgs false
structure TA (w : World) (base : Nat) (P : Nat → Prop) (g gw gs m : Nat) (ws : List Int) (sts : List Bool) (nx mv : Int) (shV : Value) (shs : List S65) (n s len : Nat) : Prop where
  am : AM w base P g gw gs m ws sts nx mv shV shs
  h1 : 1 ≤ n
  h2 : (n : Int) < nx
  hx : nx ≤ (m : Int)
  hm : m ≤ 65537
  hs : sts.getD n false = true
  hw : ws.getD n 0 = (s : Int)
  hss : s < shs.length
  ha : (shOf shs s).f1 = true → ws.getD (n + 1) 0 = (len : Int) ∧ n + 1 < m
  ho : (shOf shs s).f1 = false → len = (shOf shs s).f0.length
theorem TA.below {w w2 : World} {base : Nat} {P : Nat → Prop} {g gw gs m : Nat} {ws : List Int} {sts : List Bool} {nx mv : Int} {shV : Value} {shs : List S65} {n s len : Nat} (h : TA w base P g gw gs m ws sts nx mv shV shs n s len) (hb : Below w.heap.size w w2) : TA w2 base P g gw gs m ws sts nx mv shV shs n s len :=
  ⟨h.am.below hb, h.h1, h.h2, h.hx, h.hm, h.hs, h.hw, h.hss, h.ha, h.ho⟩
theorem AM.shF {w : World} {base g gw gs n : Nat} {P : Nat → Prop} {ws : List Int} {sts : List Bool} {nx mv : Int} {shV : Value} {shs : List S65} (h : AM w base P g gw gs n ws sts nx mv shV shs) (s : Nat) (hs : s < shs.length) :
    ∃ ad c A0 c0, shV = .slice (some ad) shs.length c ∧ w.cell? (ad.add (s * 3)) = some (.slice A0 (shOf shs s).f0.length c0) ∧ w.cell? ⟨(ad.add (s * 3)).block, (ad.add (s * 3)).off + 1, none⟩ = some (.bool (shOf shs s).f1) ∧ w.cell? ⟨(ad.add (s * 3)).block, (ad.add (s * 3)).off + 2, none⟩ = some (.bool (shOf shs s).f2) ∧ (shOf shs s).f0.length ≤ c0 ∧ Kd.F Kd.bool w (fun k => P k ∧ k ≠ g ∧ k ≠ gw ∧ k ≠ gs) A0 (shOf shs s).f0.length (shOf shs s).f0 := by
  obtain ⟨A, c, rfl, hc, hC⟩ := Kd.N_reads h.shp
  obtain ⟨ad, cs, rfl, hl, hK, hcc, _⟩ := Kd.F_get (Kd.N_F h.shp) z65 (s : Int) (by omega) (by omega)
  rw [Int.toNat_natCast] at hK hcc
  obtain ⟨A0, c0, rfl, l0, g0⟩ := k65_openF hK
  refine ⟨ad, c, A0, c0, rfl, hcc 0 _ rfl, ?_, ?_, l0, g0⟩
  · have := hcc 1 _ rfl
    rw [← Addr.add_add] at this
    exact this
  · have := hcc 2 _ rfl
    rw [← Addr.add_add] at this
    exact this
set_option maxHeartbeats 8000000 in
set_option maxRecDepth 100000 in
theorem ins_ta {w : World} {base : Nat} {P : Nat → Prop} {g gw gs m : Nat} {ws : List Int} {sts : List Bool} {nx mv : Int} {shV : Value} {shs : List S65} {n s len : Nat} (h : TA w base P g gw gs m ws sts nx mv shV shs n s len) :
    Calls Try.prog 41 #[.pointer (some ⟨g, 0, none⟩), .int .i64 (n : Int)] w fun e w' => e = .returned (.bool true) ∧ Below w.heap.size w w' := by
  have c1 := h.am.c1
  have c2 := h.am.c2
  have hm := h.hx
  have hn := h.h2
  have h1 := h.h1
  have hs := h.am.cs (i := n) (by omega)
  rw [h.hs] at hs
  have hn1 : (n : Int) < (m : Int) := by omega
  have h0 : 0 < (n : Int) := by omega
  clear h hm h1
  go_enter Try.func41, Try.ntmps41
  go_wp2_with fail
  (try go_ret)
  exact ⟨rfl, Below.refl _ _⟩
set_option maxHeartbeats 8000000 in
set_option maxRecDepth 100000 in
theorem len_ta {w : World} {base : Nat} {P : Nat → Prop} {g gw gs m : Nat} {ws : List Int} {sts : List Bool} {nx mv : Int} {shV : Value} {shs : List S65} {n s len : Nat} (h : TA w base P g gw gs m ws sts nx mv shV shs n s len) :
    Calls Try.prog 35 #[.pointer (some ⟨g, 0, none⟩), .int .i64 (n : Int)] w fun e w' => e = .returned (.int .i64 (len : Int)) ∧ Below w.heap.size w w' := by
  have HI := Aside0.mk (ins_ta h)
  have HM := Aside0.mk h.am
  have E1 := Aside0.mk h.hw
  have hn : (n : Int) < (m : Int) := by have := h.h2; have := h.hx; omega
  have hlt : n < m := by omega
  have hss2 := h.hss
  have hss : (s : Int) < (shs.length : Int) := by omega
  have hobj := h.ho
  have e2 : (shOf shs s).f1 = true → ws.getD (n + 1) 0 = (len : Int) := fun hh => (h.ha hh).1
  have hn2 : (shOf shs s).f1 = true → n + 1 < m := fun hh => (h.ha hh).2
  have h1 := h.h1
  have hm : m ≤ 100000 := by have := h.hm; omega
  clear h
  go_enter Try.func35, Try.ntmps35
  go_wp2_with (first | (go_at_call 41; (with_reducible refine (HI.out).mono ?_); rintro e w1 ⟨rfl, hb⟩; have HB := Aside0.mk hb; have HM2 := Aside0.mk (HM.out.below hb); clear hb))
  obtain ⟨ad, c, A0, cc0, rfl, y0, y1, y2, y3, y4⟩ := HM2.out.sh s hss2
  have c0 := HM2.out.c0
  have c3 := HM2.out.c3
  have c1 := HM2.out.cw hlt
  rw [E1.out] at c1
  go_region_held3 (fun w' => w'.cell? ⟨g, 0, none⟩ = some (.slice (some ⟨gw, 0, none⟩) m m) ∧ w'.cell? ⟨g, 3, none⟩ = some (.slice (some ad) shs.length c) ∧ w'.cell? ⟨gw, n, none⟩ = some (.int .i64 s) ∧ w'.cell? (ad.add (s * 3)) = some (.slice A0 (shOf shs s).f0.length cc0) ∧ w'.cell? ⟨(ad.add (s * 3)).block, (ad.add (s * 3)).off + 1, none⟩ = some (.bool (shOf shs s).f1) ∧ w'.cell? ⟨(ad.add (s * 3)).block, (ad.add (s * 3)).off + 2, none⟩ = some (.bool (shOf shs s).f2)) (go_keep) (fail)
  clear c0 c1 c3 y0 y1 y2
  have HB3 : Below w1.heap.size w1 ((w1.alloc (.cells #[.slice A0 (shOf shs s).f0.length cc0, .bool (shOf shs s).f1, .bool (shOf shs s).f2] 65)).drew) := below_drew (below_alloc (Below.refl _ _) _)
  have HM3 := Aside0.mk (HM2.out.below HB3)
  have HBB := Aside0.mk (below_step HB.out HB3)
  have d0 := HM3.out.c0
  clear HB3
  cases hb : (shOf shs s).f1 with
  | false =>
    rw [hb] at HM3 HBB d0
    go_wp2_with fail
    (try go_ret)
    exact ⟨by rw [hobj hb]; rfl, HBB.out⟩
  | true =>
    have d1 := HM3.out.cw (hn2 hb)
    rw [e2 hb] at d1
    rw [hb] at HM3 HBB d0 d1
    have hn3 : ((n : Int) + 1) < (m : Int) := by have := hn2 hb; omega
    go_wp2_with fail
    (try go_ret)
    exact ⟨rfl, HBB.out⟩
set_option maxHeartbeats 8000000 in
set_option maxRecDepth 100000 in
theorem refs_ta {w : World} {base : Nat} {P : Nat → Prop} {g gw gs m : Nat} {ws : List Int} {sts : List Bool} {nx mv : Int} {shV : Value} {shs : List S65} {n s len : Nat} (h : TA w base P g gw gs m ws sts nx mv shV shs n s len) {H : Int} (hH : H = if (shOf shs s).f1 = true then 2 else 1) :
    Calls Try.prog 37 #[.pointer (some ⟨g, 0, none⟩), .int .i64 (n : Int)] w fun e w' => ∃ A0 c0, e = .returned (.tuple #[.int .i64 ((n : Int) + H), .int .i64 (len : Int), .agg #[.slice A0 (shOf shs s).f0.length c0, .bool (shOf shs s).f1, .bool (shOf shs s).f2]]) ∧ (shOf shs s).f0.length ≤ c0 ∧ Kd.F Kd.bool w (fun k => P k ∧ k ≠ g ∧ k ≠ gw ∧ k ≠ gs) A0 (shOf shs s).f0.length (shOf shs s).f0 ∧ Below w.heap.size w w' := by
  have HLN : Aside0 (∀ wx, Below w.heap.size w wx → Calls Try.prog 35 #[.pointer (some ⟨g, 0, none⟩), .int .i64 (n : Int)] wx fun e w' => e = .returned (.int .i64 (len : Int)) ∧ Below wx.heap.size wx w') := ⟨fun wx hb => len_ta (h.below hb)⟩
  have HM := Aside0.mk h.am
  have E1 := Aside0.mk h.hw
  have hltI : (n : Int) < (m : Int) := by have := h.h2; have := h.hx; omega
  have hlt : n < m := by omega
  have hss2 := h.hss
  have hss : (s : Int) < (shs.length : Int) := by omega
  have hm : (n : Int) ≤ 100000 := by have := h.hm; omega
  have hn1 := h.h1
  obtain ⟨hh1, hh2⟩ : 1 ≤ H ∧ H ≤ 2 := by rw [hH]; split <;> simp
  have HHD := Aside0.mk hH
  clear h hH
  have HB6 : Aside0 (Blk (w.alloc (.cells #[.slice none 0 0, .bool false, .bool false] 65)) w.heap.size 65 #[.slice none 0 0, .bool false, .bool false]) := ⟨Blk.made _ _ _⟩
  have HB1 : Aside0 (Below w.heap.size w (w.alloc (.cells #[.slice none 0 0, .bool false, .bool false] 65))) := ⟨below_alloc (Below.refl _ _) _⟩
  go_enter Try.func37, Try.ntmps37
  go_wp2_with fail
  generalize w.alloc (.cells #[.slice none 0 0, .bool false, .bool false] 65) = w1 at *
  obtain ⟨ad, c, A0, cc0, rfl, y0, y1, y2, y3, y4⟩ := HM.out.shF s hss2
  replace y0 := bcell HB1.out y0
  replace y1 := bcell HB1.out y1
  replace y2 := bcell HB1.out y2
  have HM2 := Aside0.mk (HM.out.below HB1.out)
  have c0 := HM2.out.c0
  have c3 := HM2.out.c3
  have c1 := HM2.out.cw hlt
  rw [E1.out] at c1
  generalize hfl : (shOf shs s).f0.length = fl at *
  go_region_held3 (fun w' => w'.cell? ⟨g, 0, none⟩ = some (.slice (some ⟨gw, 0, none⟩) m m) ∧ w'.cell? ⟨g, 3, none⟩ = some (.slice (some ad) shs.length c) ∧ w'.cell? ⟨gw, n, none⟩ = some (.int .i64 s) ∧ w'.cell? (ad.add (s * 3)) = some (.slice A0 fl cc0) ∧ w'.cell? ⟨(ad.add (s * 3)).block, (ad.add (s * 3)).off + 1, none⟩ = some (.bool (shOf shs s).f1) ∧ w'.cell? ⟨(ad.add (s * 3)).block, (ad.add (s * 3)).off + 2, none⟩ = some (.bool (shOf shs s).f2)) (go_keep) (fail)
  clear c0 c1 c3 y0 y1 y2
  have HRB : Aside0 (RB w ((w1.alloc (.cells #[.slice A0 fl cc0, .bool (shOf shs s).f1, .bool (shOf shs s).f2] 65)).drew) w.heap.size w1.heap.size A0 fl cc0 (shOf shs s).f1 (shOf shs s).f2) := ⟨⟨below_step HB1.out (below_drew (below_alloc (Below.refl _ _) _)), Blk.made _ _ _, HB6.out.below (below_drew (below_alloc (Below.refl _ _) _)), Nat.le_refl _⟩⟩
  have HC := Aside0.mk y4
  have HY := Aside0.mk y3
  generalize ((w1.alloc (.cells #[.slice A0 fl cc0, .bool (shOf shs s).f1, .bool (shOf shs s).f2] 65)).drew) = w2 at *
  generalize hb1 : (shOf shs s).f1 = f1 at *
  generalize hb2 : (shOf shs s).f2 = f2 at *
  have HLR : Aside0 (∀ wx, RB w wx w.heap.size w1.heap.size A0 fl cc0 f1 f2 → Calls Try.prog 35 #[.pointer (some ⟨g, 0, none⟩), .int .i64 (n : Int)] wx fun e w' => e = .returned (.int .i64 (len : Int)) ∧ Below wx.heap.size wx w') := ⟨fun wx h => HLN.out wx h.bel⟩
  generalize hw6 : w.heap.size = b6 at *
  generalize hw7 : w1.heap.size = b7 at *
  obtain ⟨z0, z1, z2, z3, z4, z5, f0, f1', f2'⟩ := HRB.out.cells
  go_wp2_with fail
  go_region_with (first
    | (go_at_call 48; refine (head_two _ _ _ _ _ _ HHD.out).mono ?_; rintro e w4 ⟨rfl, hb4⟩; first | have HR4 := Aside0.mk (HR5.out.below (below_step (by repeat' first | exact Below.refl _ _ | apply below_drew) hb4)) | have HR4 := Aside0.mk (HRB.out.below (below_step (by repeat' first | exact Below.refl _ _ | apply below_drew) hb4))
       obtain ⟨u0, u1, u2, u3, u4, u5, v0, v1, v2⟩ := HR4.out.cells)
    | (go_at_call 35; first | refine (HLR.out w4 HR4.out).mono ?_ | refine (HLR.out w2.drew (HRB.out.below (below_drew (Below.refl _ _)))).mono ?_ | refine (HLR.out w2 HRB.out).mono ?_
       rintro e w5 ⟨rfl, hb5⟩
       first | have HR5 := Aside0.mk (HR4.out.below (below_step (by repeat' first | exact Below.refl _ _ | apply below_drew) hb5)) | have HR5 := Aside0.mk (HRB.out.below (below_step (by repeat' first | exact Below.refl _ _ | apply below_drew) hb5))
       obtain ⟨s0, s1, s2, s3, s4, s5, t0, t1, t2⟩ := HR5.out.cells))
  all_goals (rw [show IntKind.i64.wrap ((n : Int) + H) = (n : Int) + H from IntWalk.i64_in _ (by omega)])
  all_goals (go_wp2_with fail)
  all_goals
    subst hw6
    subst hw7
    subst hb1
    subst hb2
    subst hfl
  all_goals first
    | (obtain ⟨q1, q2⟩ := rb_fin HR5.out
       refine bodyPost_ret (results_ttc (by rfl) _ _ w.heap.size 65 #[.slice A0 (shOf shs s).f0.length cc0, .bool (shOf shs s).f1, .bool (shOf shs s).f2] (0, 0) _ (by rfl) q1 Try.underlying65 rfl info65) (by rfl) ?_
       exact ⟨A0, cc0, rfl, HY.out, HC.out, q2⟩)
    | (obtain ⟨q1, q2⟩ := rb_fin HR4.out
       refine bodyPost_ret (results_ttc (by rfl) _ _ w.heap.size 65 #[.slice A0 (shOf shs s).f0.length cc0, .bool (shOf shs s).f1, .bool (shOf shs s).f2] (0, 0) _ (by rfl) q1 Try.underlying65 rfl info65) (by rfl) ?_
       exact ⟨A0, cc0, rfl, HY.out, HC.out, q2⟩)
set_option maxHeartbeats 8000000 in
set_option maxRecDepth 100000 in
theorem size_ta {w : World} {base : Nat} {P : Nat → Prop} {g gw gs m : Nat} {ws : List Int} {sts : List Bool} {nx mv : Int} {shV : Value} {shs : List S65} {n k len : Nat} (h : TA w base P g gw gs m ws sts nx mv shV shs n k len) (hsl : (shOf shs k).f0.length ≤ 1000) (hlen : len ≤ 131072) {z : Nat} (hz : z = (if (shOf shs k).f1 = true then 2 else 1) + len) :
    Calls Try.prog 25 #[.pointer (some ⟨g, 0, none⟩), .int .i64 (k : Int), .int .i64 (len : Int)] w fun e w' => e = .returned (.int .i64 (z : Int)) ∧ Below w.heap.size w w' := by
  have hss := h.hss
  have hob := h.ho
  have hM := h.am
  obtain ⟨ad, cc, A0, cc0, hV, y0, y1, y2, y3, y4⟩ := hM.sh k hss
  subst hV
  have hmax := Kd.C_max (Kd.N_reads hM.shp).choose_spec.choose_spec.2.2
  have c3 := hM.c3
  have hmx := Kd.C_max y4
  have h1' : (0 : Int) ≤ (k : Int) := by omega
  have h2' : (k : Int) < (shs.length : Int) := by omega
  have h3' : (0 : Int) ≤ (len : Int) := by omega
  have h4' : (len : Int) ≤ 131072 := by omega
  clear h hM y4
  generalize (shOf shs k) = sh at *
  cases hb : sh.f1 with
  | true =>
    rw [hb] at y1
    rw [hb, if_pos rfl] at hz
    subst hz
    clear hob
    go_enter Try.func25, Try.ntmps25
    go_wp2_with fail
    (try go_ret)
    exact ⟨by rw [Int.natCast_add]; rfl, below_alloc (Below.refl _ _) _⟩
  | false =>
    rw [hb] at y1
    rw [hb, if_neg (by decide), hob hb] at hz
    subst hz
    clear hob
    go_enter Try.func25, Try.ntmps25
    go_wp2_with fail
    (try go_ret)
    exact ⟨by rw [Int.natCast_add]; rfl, below_alloc (Below.refl _ _) _⟩
end Go.Proofs.Ytibhjlmffgabgaa.PAll
