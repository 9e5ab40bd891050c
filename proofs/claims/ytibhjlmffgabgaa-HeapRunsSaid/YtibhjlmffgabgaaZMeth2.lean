import Derived.Test.YtibhjlmffgabgaaZMeth
namespace Go.Proofs.Ytibhjlmffgabgaa.PAll
open Go.RowKit Go.Proofs.YtibhjlmffgabgaaW.PrintWords Go.Proofs.YtibhjlmffgabgaaW.PrintLast Go.Proofs.YtibhjlmffgabgaaW.PrintMore
open Go.Proofs.Ytibhjlmffgabgaa.MapInt
set_option linter.unusedVariables false
set_option linter.unusedSimpArgs false
def sizeF (shs : List S65) (s n : Int) : Int := if s < 0 ∨ (shs.length : Int) ≤ s ∨ n < 0 ∨ 131072 < n then -1 else if (shOf shs s.toNat).f1 = true then 2 + n else 1 + ((shOf shs s.toNat).f0.length : Int)
set_option maxHeartbeats 8000000 in
set_option maxRecDepth 100000 in
theorem size_calls {w : World} {base g most : Nat} {P : Nat → Prop} {shs : List S65} {T : List Thg} {mv : Int} (h : AS w base P g most shs T mv) (s n : Int) :
    Calls Try.prog 25 #[.pointer (some ⟨g, 0, none⟩), .int .i64 s, .int .i64 n] w fun e w' => e = .returned (.int .i64 (sizeF shs s n)) ∧ Below w.heap.size w w' := by
  obtain ⟨gw, gs, shV, w0, junk, hM⟩ := h.mem
  obtain ⟨A, c, rfl, hc, hC⟩ := Kd.N_reads hM.shp
  have hmax := Kd.C_max hC
  have c3 := hM.c3
  have hM2 := hM
  have hsl := h.shl
  have HM := Aside0.mk hM
  unfold sizeF
  clear h hM hC
  by_cases h1 : s < 0
  · rw [if_pos (.inl h1)]
    clear hM2 HM hsl
    go_enter Try.func25, Try.ntmps25
    go_wp2_with fail
    (try go_ret)
    exact ⟨rfl, Below.refl _ _⟩
  · have h1' : 0 ≤ s := by omega
    by_cases h2 : (shs.length : Int) ≤ s
    · rw [if_pos (.inr (.inl h2))]
      clear hM2 HM hsl
      go_enter Try.func25, Try.ntmps25
      go_wp2_with fail
      (try go_ret)
      exact ⟨rfl, Below.refl _ _⟩
    · have h2' : s < (shs.length : Int) := by omega
      by_cases h3 : n < 0
      · rw [if_pos (.inr (.inr (.inl h3)))]
        clear hM2 HM hsl
        go_enter Try.func25, Try.ntmps25
        go_wp2_with fail
        (try go_ret)
        exact ⟨rfl, Below.refl _ _⟩
      · have h3' : 0 ≤ n := by omega
        by_cases h4 : 131072 < n
        · rw [if_pos (.inr (.inr (.inr h4)))]
          clear hM2 HM hsl
          go_enter Try.func25, Try.ntmps25
          go_wp2_with fail
          (try go_ret)
          exact ⟨rfl, Below.refl _ _⟩
        · have h4' : n ≤ 131072 := by omega
          rw [if_neg (by omega)]
          obtain ⟨k, rfl⟩ : ∃ k : Nat, s = k := ⟨s.toNat, by omega⟩
          rw [Int.toNat_natCast]
          obtain ⟨ad, cc, A0, cc0, hV, y0, y1, y2, y3, y4⟩ := hM2.sh k (by omega)
          injection hV with hV _ hV2
          subst hV
          have hmx := Kd.C_max y4
          have hl := hsl k
          clear hM2 y4 hsl
          generalize (shOf shs k) = sh at *
          cases hb : sh.f1 with
          | true =>
            rw [if_pos rfl]
            rw [hb] at y1
            go_enter Try.func25, Try.ntmps25
            go_wp2_with fail
            (try go_ret)
            exact ⟨rfl, below_alloc (Below.refl _ _) _⟩
          | false =>
            rw [if_neg (by decide)]
            rw [hb] at y1
            go_enter Try.func25, Try.ntmps25
            go_wp2_with fail
            (try go_ret)
            exact ⟨rfl, below_alloc (Below.refl _ _) _⟩
def freeF (most : Nat) (shs : List S65) (T : List Thg) : Int := (most : Int) - sumT shs T
set_option maxHeartbeats 8000000 in
set_option maxRecDepth 100000 in
theorem free_calls {w : World} {base g most : Nat} {P : Nat → Prop} {shs : List S65} {T : List Thg} {mv : Int} (h : AS w base P g most shs T mv) :
    Calls Try.prog 13 #[.pointer (some ⟨g, 0, none⟩)] w fun e w' => e = .returned (.int .i64 (freeF most shs T)) ∧ Below w.heap.size w w' := by
  obtain ⟨gw, gs, shV, w0, junk, hM⟩ := h.mem
  have c0 := hM.c0
  have c2 := hM.c2
  have hb := h.bnd
  have hr := h.room
  have hv : ((most + 1 : Nat) : Int) - ((1 + sumT shs T : Nat) : Int) = freeF most shs T := by unfold freeF; omega
  have hx1 : ((most + 1 : Nat) : Int) ≤ 100000 := by omega
  have hx2 : (0 : Int) ≤ ((most + 1 : Nat) : Int) := by omega
  have hx3 : (0 : Int) ≤ ((1 + sumT shs T : Nat) : Int) := by omega
  have hx4 : ((1 + sumT shs T : Nat) : Int) ≤ 100000 := by omega
  rw [← hv]
  clear h hM hb hr hv
  generalize (1 + sumT shs T : Nat) = x at *
  generalize (most + 1) = m at *
  go_enter Try.func13, Try.ntmps13
  go_wp2_with fail
  go_quiet (fail)
  go_wp2_with fail
  (try go_ret)
  exact ⟨rfl, pw_below_drewN (Below.refl _ _) _⟩
set_option maxHeartbeats 8000000 in
set_option maxRecDepth 100000 in
theorem moved_calls {w : World} {base g most : Nat} {P : Nat → Prop} {shs : List S65} {T : List Thg} {mv : Int} (h : AS w base P g most shs T mv) :
    Calls Try.prog 32 #[.pointer (some ⟨g, 0, none⟩)] w fun e w' => e = .returned (.int .i64 mv) ∧ Below w.heap.size w w' := by
  obtain ⟨gw, gs, shV, w0, junk, hM⟩ := h.mem
  have c4 := hM.c4
  clear h hM
  go_enter Try.func32, Try.ntmps32
  go_wp2_with fail
  (try go_ret)
  exact ⟨rfl, Below.refl _ _⟩
set_option maxHeartbeats 8000000 in
set_option maxRecDepth 100000 in
theorem head_at (A0 : Option Addr) (n c0 : Nat) (b e : Bool) (w : World) :
    Calls Try.prog 48 #[.agg #[.slice A0 n c0, .bool b, .bool e]] w fun r w' => r = .returned (.int .i64 (if b = true then 2 else 1)) ∧ Below w.heap.size w w' := by
  cases b with
  | true =>
    go_enter Try.func48, Try.ntmps48
    go_wp2_with fail
    (try go_ret)
    exact ⟨rfl, below_alloc (Below.refl _ _) _⟩
  | false =>
    go_enter Try.func48, Try.ntmps48
    go_wp2_with fail
    (try go_ret)
    exact ⟨rfl, below_alloc (Below.refl _ _) _⟩
theorem head_two (A0 : Option Addr) (n c0 : Nat) (b e : Bool) (w : World) {H : Int} (hH : H = if b = true then 2 else 1) :
    Calls Try.prog 48 #[.agg #[.slice A0 n c0, .bool b, .bool e]] w fun r w' => r = .returned (.int .i64 H) ∧ Below w.heap.size w w' := by
  subst hH; exact head_at A0 n c0 b e w
theorem bcell {w w2 : World} {ad : Addr} {v : Value} (hb : Below w.heap.size w w2) (h : w.cell? ad = some v) : w2.cell? ad = some v := by
  have hlt : ad.block < w.heap.size := by
    rcases Nat.lt_or_ge ad.block w.heap.size with h1 | h1
    · exact h1
    · unfold World.cell? at h; rw [Array.getElem?_eq_none h1] at h; cases h
  rw [World.cell?_of_block (hb.block _ hlt)]; exact h
def placeF (shs : List S65) (T : List Thg) (a i : Int) : Int := match findT shs T 1 a with | none => 0 | some t => if i < 0 ∨ (t.xs.length : Int) ≤ i then 0 else a + hd shs t + i
theorem AS.below {w w2 : World} {base g most : Nat} {P : Nat → Prop} {shs : List S65} {T : List Thg} {mv : Int} (h : AS w base P g most shs T mv) (hb : Below w.heap.size w w2) : AS w2 base P g most shs T mv := by
  obtain ⟨gw, gs, shV, w0, junk, hM⟩ := h.mem
  exact ⟨h.bnd, h.room, h.things, h.shl, h.wrd, gw, gs, shV, w0, junk, hM.below hb⟩
set_option maxHeartbeats 8000000 in
set_option maxRecDepth 100000 in
theorem place_calls {w : World} {base g most : Nat} {P : Nat → Prop} {shs : List S65} {T : List Thg} {mv : Int} (h : AS w base P g most shs T mv) (a i : Int) :
    Calls Try.prog 39 #[.pointer (some ⟨g, 0, none⟩), .int .i64 a, .int .i64 i] w fun e w' => e = .returned (.int .i64 (placeF shs T a i)) ∧ Below w.heap.size w w' := by
  have hl := len_calls h a
  unfold placeF
  by_cases h0 : i < 0
  · have e : (match findT shs T 1 a with | none => (0 : Int) | some t => if i < 0 ∨ (t.xs.length : Int) ≤ i then 0 else a + hd shs t + i) = 0 := by
      split
      · rfl
      · rw [if_pos (.inl h0)]
    rw [e]
    clear hl h e
    go_enter Try.func39, Try.ntmps39
    go_wp2_with fail
    (try go_ret)
    exact ⟨rfl, Below.refl _ _⟩
  · have h0' : 0 ≤ i := by omega
    cases hf : findT shs T 1 a with
    | none =>
      rw [hf] at hl
      have HL := Aside0.mk hl
      dsimp only [lenT]
      clear hl h hf
      go_enter Try.func39, Try.ntmps39
      go_wp2_with (first | ((try (refine gate_guard (by rfl) ?_; dsimp only)); go_at_call 35; (with_reducible refine (HL.out).mono ?_); rintro e w1 ⟨rfl, hb⟩; have HB := Aside0.mk hb; dsimp only [lenT]; clear hb))
      (try go_ret)
      exact ⟨rfl, HB.out⟩
    | some t =>
      rw [hf] at hl
      dsimp only
      by_cases h1 : (t.xs.length : Int) ≤ i
      · rw [if_pos (.inr h1)]
        have HL := Aside0.mk hl
        clear hl h hf
        go_enter Try.func39, Try.ntmps39
        go_wp2_with (first | ((try (refine gate_guard (by rfl) ?_; dsimp only)); go_at_call 35; (with_reducible refine (HL.out).mono ?_); rintro e w1 ⟨rfl, hb⟩; have HB := Aside0.mk hb; dsimp only [lenT]; clear hb))
        (try go_ret)
        exact ⟨rfl, HB.out⟩
      · have h1' : i < (t.xs.length : Int) := by omega
        rw [if_neg (by omega)]
        have HL := Aside0.mk hl
        obtain ⟨gw, gs, shV, w0, junk, hM⟩ := h.mem
        obtain ⟨n, rfl, hn1, hn2, hn3, hn4⟩ := ws_thing (w0 := w0) (junk := junk) hf
        have hroom := h.room
        have hbnd := h.bnd
        have hok := h.things t hn3
        have e1 : ([w0] ++ T.flatMap (encT shs) ++ junk).getD n 0 = (t.s : Int) := hn4 0 _ (enc_s shs t)
        have hlt : n < most + 1 := by have := tsz_pos shs t; omega
        have hltI : (n : Int) < ((most + 1 : Nat) : Int) := by omega
        have hss : (t.s : Int) < (shs.length : Int) := by have := hok.1; omega
        have hss2 := hok.1
        have hxl := hok.2.2
        have hm : (n : Int) ≤ 100000 := by omega
        have hhd : (hd shs t : Int) = if (shOf shs t.s).f1 = true then 2 else 1 := by unfold hd; split <;> rfl
        generalize (hd shs t : Int) = H at *
        obtain ⟨hh1, hh2⟩ : 1 ≤ H ∧ H ≤ 2 := by rw [hhd]; split <;> simp
        have HHD := Aside0.mk hhd
        clear hhd
        have HM := Aside0.mk hM
        have E1 := Aside0.mk e1
        clear hl h hM hf hn4 e1 hn3 hn2 hroom hok hbnd
        generalize [w0] ++ T.flatMap (encT shs) ++ junk = ws at *
        generalize most + 1 = m at *
        go_enter Try.func39, Try.ntmps39
        go_wp2_with (first | ((try (refine gate_guard (by rfl) ?_; dsimp only)); go_at_call 35; (with_reducible refine (HL.out).mono ?_); rintro e w1 ⟨rfl, hb⟩; have HB := Aside0.mk hb; have HM2 := Aside0.mk (HM.out.below hb); dsimp only [lenT]; clear hb))
        obtain ⟨ad, c, A0, cc0, rfl, y0, y1, y2, y3, y4⟩ := HM2.out.sh t.s hss2
        have c0 := HM2.out.c0
        have c3 := HM2.out.c3
        have c1 := HM2.out.cw hlt
        rw [E1.out] at c1
        generalize (shOf shs t.s).f0.length = fl at *
        go_region_held3 (fun w' => w'.cell? ⟨g, 0, none⟩ = some (.slice (some ⟨gw, 0, none⟩) m m) ∧ w'.cell? ⟨g, 3, none⟩ = some (.slice (some ad) shs.length c) ∧ w'.cell? ⟨gw, n, none⟩ = some (.int .i64 t.s) ∧ w'.cell? (ad.add (t.s * 3)) = some (.slice A0 fl cc0) ∧ w'.cell? ⟨(ad.add (t.s * 3)).block, (ad.add (t.s * 3)).off + 1, none⟩ = some (.bool (shOf shs t.s).f1) ∧ w'.cell? ⟨(ad.add (t.s * 3)).block, (ad.add (t.s * 3)).off + 2, none⟩ = some (.bool (shOf shs t.s).f2)) (first | go_keep | (refine ⟨bcell hb2 ?_, bcell hb2 ?_, bcell hb2 ?_, bcell hb2 ?_, bcell hb2 ?_, bcell hb2 ?_⟩ <;> go_keep)) (first | (go_at_call 48; refine (head_two _ _ _ _ _ _ HHD.out).mono ?_; rintro e w2 ⟨rfl, hb2⟩))
        have hw1 : IntKind.i64.wrap ((n : Int) + H) = (n : Int) + H := IntWalk.i64_in _ (by omega)
        have hw2 : IntKind.i64.wrap ((n : Int) + H + i) = (n : Int) + H + i := IntWalk.i64_in _ (by omega)
        rw [hw1, hw2]
        have HB2 := Aside0.mk (below_step HB.out (below_step (below_drew (Below.refl _ _)) hb2))
        clear hw1 hw2
        go_wp2_with fail
        (try go_ret)
        exact ⟨rfl, HB2.out⟩
def getF (shs : List S65) (T : List Thg) (a i : Int) : Int := match findT shs T 1 a with | none => 0 | some t => if i < 0 then 0 else t.xs.getD i.toNat 0
set_option maxHeartbeats 8000000 in
set_option maxRecDepth 100000 in
theorem get_calls {w : World} {base g most : Nat} {P : Nat → Prop} {shs : List S65} {T : List Thg} {mv : Int} (h : AS w base P g most shs T mv) (a i : Int) :
    Calls Try.prog 20 #[.pointer (some ⟨g, 0, none⟩), .int .i64 a, .int .i64 i] w fun e w' => e = .returned (.int .i64 (getF shs T a i)) ∧ Below w.heap.size w w' := by
  have hp := place_calls h a i
  have hz : placeF shs T a i = 0 → getF shs T a i = 0 := by
    unfold placeF getF
    cases h2 : findT shs T 1 a with
    | none => intro _; rfl
    | some t =>
      dsimp only
      intro h1
      split at h1
      · rename_i h3
        split
        · rfl
        · rw [List.getD_eq_getElem?_getD, List.getElem?_eq_none (by omega)]; rfl
      · have := (find_ge T _ _ t h2).1
        omega
  by_cases h0 : placeF shs T a i = 0
  · rw [h0] at hp
    rw [hz h0]
    have HP := Aside0.mk hp
    clear hp h hz h0
    go_enter Try.func20, Try.ntmps20
    go_wp2_with (first | (go_at_call 39; (with_reducible refine (HP.out).mono ?_); rintro e w1 ⟨rfl, hb⟩; have HB := Aside0.mk hb; clear hb))
    (try go_ret)
    exact ⟨rfl, HB.out⟩
  · obtain ⟨gw, gs, shV, w0, junk, hM⟩ := h.mem
    have hroom := h.room
    obtain ⟨n, hn, hn1, hn2, hv⟩ : ∃ n : Nat, placeF shs T a i = n ∧ 1 ≤ n ∧ n < most + 1 ∧ ([w0] ++ T.flatMap (encT shs) ++ junk).getD n 0 = getF shs T a i := by
      unfold placeF getF at *
      cases hf : findT shs T 1 a with
      | none => rw [hf] at h0; exact absurd rfl h0
      | some t =>
        rw [hf] at h0
        dsimp only at h0 ⊢
        obtain ⟨m, rfl, k1, k2, k3, k4⟩ := ws_thing (w0 := w0) (junk := junk) hf
        split at h0
        · exact absurd rfl h0
        · rename_i hi
          obtain ⟨q, rfl⟩ : ∃ q : Nat, i = q := ⟨i.toNat, by omega⟩
          have hs : tsz shs t = hd shs t + t.xs.length := by unfold tsz hd; split <;> rfl
          rw [if_neg hi, if_neg (by omega)]
          refine ⟨m + (hd shs t + q), by omega, by omega, by omega, ?_⟩
          rw [k4 _ _ (enc_x shs t q (by omega)), Int.toNat_natCast]
    rw [hn] at hp
    have hcw : ∀ w2, Below w.heap.size w w2 → w2.cell? ⟨gw, n, none⟩ = some (.int .i64 (getF shs T a i)) := fun w2 hb => by rw [(hM.below hb).cw hn2, hv]
    have HCW := Aside0.mk hcw
    have HC0 : Aside0 (∀ w2, Below w.heap.size w w2 → w2.cell? ⟨g, 0, none⟩ = some (.slice (some ⟨gw, 0, none⟩) (most + 1) (most + 1))) := ⟨fun w2 hb => (hM.below hb).c0⟩
    have HP := Aside0.mk hp
    have hn3 : (n : Int) < ((most + 1 : Nat) : Int) := by omega
    have hn4 : 0 < (n : Int) := by omega
    clear hcw hp hM hv h hroom h0 hz hn
    generalize getF shs T a i = v at *
    generalize most + 1 = m at *
    go_enter Try.func20, Try.ntmps20
    go_wp2_with (first | (go_at_call 39; (with_reducible refine (HP.out).mono ?_); rintro e w1 ⟨rfl, hb⟩; have HB := Aside0.mk hb; have c0 := HC0.out _ hb; have c1 := HCW.out _ hb; clear hb))
    (try go_ret)
    exact ⟨rfl, HB.out⟩
end Go.Proofs.Ytibhjlmffgabgaa.PAll
