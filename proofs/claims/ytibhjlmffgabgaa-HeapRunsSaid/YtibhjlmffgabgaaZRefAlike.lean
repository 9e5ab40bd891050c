import Derived.Test.YtibhjlmffgabgaaZRefNew
namespace Go.Proofs.Ytibhjlmffgabgaa.PAll
open Go.RowKit Go.Proofs.YtibhjlmffgabgaaW.PrintWords Go.Proofs.YtibhjlmffgabgaaW.PrintLast Go.Proofs.YtibhjlmffgabgaaW.PrintMore
open Go.Proofs.Ytibhjlmffgabgaa.MapInt
set_option linter.unusedVariables false
set_option linter.unusedSimpArgs false
theorem find_end (shs : List S65) (T : List Thg) : findT shs T 1 ((1 + sumT shs T : Nat) : Int) = none := by
  cases hf : findT shs T 1 ((1 + sumT shs T : Nat) : Int) with
  | none => rfl
  | some t =>
    obtain ⟨i, h1, h2⟩ := find_ix _ _ _ _ _ hf
    have h3 := (List.getElem?_eq_some_iff.1 h1).1
    have h4 := sum_mono shs (T := T) h3 (Nat.le_refl _)
    rw [List.take_length] at h4
    omega
theorem find_zero (shs : List S65) (T : List Thg) : findT shs T 1 0 = none := by
  cases hf : findT shs T 1 0 with
  | none => rfl
  | some t =>
    obtain ⟨i, h1, h2⟩ := find_ix _ _ _ _ _ hf
    omega
section
variable {w w2 : World} {base g ga : Nat} {P Q K : Nat → Prop} {mv mva : Int} {m : Nat} {ls : List SH} {ts : List TH} {shV thV : Value}
set_option maxHeartbeats 8000000 in
set_option maxRecDepth 100000 in
theorem alike_calls (hA : AZ w P ga m (cvt ls) (ts.map (·.t)) mva) (h : RM w base Q K g (m : Int) ls ts mv shV thV) (hf : RF (m : Int) ls ts) :
    Calls Try.prog 34 #[.pointer (some ⟨ga, 0, none⟩), .pointer (some ⟨g, 0, none⟩)] w fun e w' => e = .returned (.bool true) ∧ Below w.heap.size w w' := by
  have HM := Aside0.mk h
  have HF := Aside0.mk hf
  have HA := Aside0.mk hA
  have HB := Aside0.mk (Below.refl w.heap.size w)
  have H21 : Aside0 (∀ wx, Below w.heap.size w wx → ∀ a, Calls Try.prog 21 #[.pointer (some ⟨ga, 0, none⟩), .int .i64 a] wx fun e w' => e = .returned (.int .i64 (shapeT (findT (cvt ls) (ts.map (·.t)) 1 a))) ∧ Below wx.heap.size wx w') := ⟨fun wx hb a => shape_az (hA.below hb) a⟩
  have H35 : Aside0 (∀ wx, Below w.heap.size w wx → ∀ a, Calls Try.prog 35 #[.pointer (some ⟨ga, 0, none⟩), .int .i64 a] wx fun e w' => e = .returned (.int .i64 (lenT (findT (cvt ls) (ts.map (·.t)) 1 a))) ∧ Below wx.heap.size wx w') := ⟨fun wx hb a => len_az (hA.below hb) a⟩
  have H20 : Aside0 (∀ wx, Below w.heap.size w wx → ∀ a i, Calls Try.prog 20 #[.pointer (some ⟨ga, 0, none⟩), .int .i64 a, .int .i64 i] wx fun e w' => e = .returned (.int .i64 (getF (cvt ls) (ts.map (·.t)) a i)) ∧ Below wx.heap.size wx w') := ⟨fun wx hb a i => get_az (hA.below hb) a i⟩
  obtain ⟨A, c, hV⟩ := h.thL
  subst hV
  have c2 := h.c2
  have hfew := hf.few
  have hb2 := hf.bnd.2
  clear h hf hA
  go_enter Try.func34, Try.ntmps34
  go_wp2_with fail
  (try go_frame)
  clear c2
  go_loopg [5, 15] (ts.length) (fun k v5 v15 wr => ∃ i : Nat, i + k = ts.length ∧ v15 = .int .i64 (i : Int) ∧ v5 = .int .i64 ((1 + sumT (cvt ls) ((ts.map (·.t)).take i) : Nat) : Int) ∧ Aside0 (Below w.heap.size w wr))
  case atStart => exact ⟨0, by omega, rfl, by simp [sumT], HB⟩
  case round =>
    clear HB
    obtain ⟨i, hik, rfl, rfl, HR⟩ := hrel
    have q2 : (0 : Int) ≤ (i : Int) := by omega
    by_cases hlt : i < ts.length
    · obtain ⟨t, ht⟩ : ∃ t, ts[i]? = some t := ⟨_, List.getElem?_eq_getElem hlt⟩
      obtain ⟨ok, hs, hr⟩ := HF.out.at_ ht
      have HFD : Aside0 (findT (cvt ls) (ts.map (·.t)) 1 ((1 + sumT (cvt ls) ((ts.map (·.t)).take i) : Nat) : Int) = some t.t) := ⟨find_at (cvt ls) (ts.map (·.t)) 1 i t.t (by rw [List.getElem?_map, ht]; rfl)⟩
      obtain ⟨ad, c', e, y0, y1⟩ := (HM.out.below HR.out).thing ht
      injection e with e1 e2 e3
      subst e1; subst e3
      have HW : Aside0 (∀ wx, Below w.heap.size w wx → ∀ j, j < t.t.xs.length → wx.cell? ⟨t.b, j, none⟩ = some (.int .i64 (t.t.xs.getD j 0))) := ⟨fun wx hb j hj => (((HM.out.below hb).wds t (List.mem_of_getElem? ht)).1).cell (wC_at hj)⟩
      have H26 : Aside0 (∀ wx, Below w.heap.size w wx → Calls Try.prog 26 #[.pointer (some ⟨g, 0, none⟩), .int .i64 (t.t.s : Int), .int .i64 (t.t.xs.length : Int)] wx fun e w' => e = .returned (.int .i64 (tsz (cvt ls) t.t : Int)) ∧ Below wx.heap.size wx w') := ⟨fun wx hb => by have := rsize_calls (HM.out.below hb) HF.out (t.t.s : Int) (t.t.xs.length : Int); rw [sizeF_thg ok] at this; exact this⟩
      have h21 := H21.out
      have H21i : Aside0 (∀ wx, Below w.heap.size w wx → Calls Try.prog 21 #[.pointer (some ⟨ga, 0, none⟩), .int .i64 ((1 + sumT (cvt ls) ((ts.map (·.t)).take i) : Nat) : Int)] wx fun e w' => e = .returned (.int .i64 (t.t.s : Int)) ∧ Below wx.heap.size wx w') := ⟨fun wx hb => by have := H21.out wx hb ((1 + sumT (cvt ls) ((ts.map (·.t)).take i) : Nat) : Int); rw [HFD.out] at this; exact this⟩
      have H35i : Aside0 (∀ wx, Below w.heap.size w wx → Calls Try.prog 35 #[.pointer (some ⟨ga, 0, none⟩), .int .i64 ((1 + sumT (cvt ls) ((ts.map (·.t)).take i) : Nat) : Int)] wx fun e w' => e = .returned (.int .i64 (t.t.xs.length : Int)) ∧ Below wx.heap.size wx w') := ⟨fun wx hb => by have := H35.out wx hb ((1 + sumT (cvt ls) ((ts.map (·.t)).take i) : Nat) : Int); rw [HFD.out] at this; exact this⟩
      have H20i : Aside0 (∀ wx, Below w.heap.size w wx → ∀ j : Nat, Calls Try.prog 20 #[.pointer (some ⟨ga, 0, none⟩), .int .i64 ((1 + sumT (cvt ls) ((ts.map (·.t)).take i) : Nat) : Int), .int .i64 (j : Int)] wx fun e w' => e = .returned (.int .i64 (t.t.xs.getD j 0)) ∧ Below wx.heap.size wx w') := ⟨fun wx hb j => by have := H20.out wx hb ((1 + sumT (cvt ls) ((ts.map (·.t)).take i) : Nat) : Int) (j : Int); unfold getF at this; rw [HFD.out] at this; dsimp only at this; rw [if_neg (by omega), Int.toNat_natCast] at this; exact this⟩
      have HS := Aside0.mk hs
      have hn := ok.2.2
      have q1 : (i : Int) < (ts.length : Int) := by omega
      have q1' : decide (i < ts.length) = true := by simp; omega
      have q3 : ((1 + sumT (cvt ls) ((ts.map (·.t)).take i) : Nat) : Int) + (tsz (cvt ls) t.t : Int) ≤ 70000 := by omega
      have q4 : (0 : Int) ≤ ((1 + sumT (cvt ls) ((ts.map (·.t)).take i) : Nat) : Int) := by omega
      have q5 : (0 : Int) ≤ (tsz (cvt ls) t.t : Int) := by omega
      clear ok hs hr ht e2 HFD h21
      generalize hSS : 1 + sumT (cvt ls) ((ts.map (·.t)).take i) = Z at *
      generalize tsz (cvt ls) t.t = z at *
      generalize hnn : t.t.xs.length = n at *
      generalize t.t.s = s at *
      go_wp2_with fail
      have HX1 : Aside0 (Blk (wr.alloc (.cells #[.int .i64 (s : Int), .slice (some ⟨t.b, 0, none⟩) n n] 76)) wr.heap.size 76 #[.int .i64 (s : Int), .slice (some ⟨t.b, 0, none⟩) n n]) := ⟨Blk.made wr 76 _⟩
      have HR1 : Aside0 (Below w.heap.size w (wr.alloc (.cells #[.int .i64 (s : Int), .slice (some ⟨t.b, 0, none⟩) n n] 76))) := ⟨below_alloc HR.out _⟩
      generalize wr.alloc (.cells #[.int .i64 (s : Int), .slice (some ⟨t.b, 0, none⟩) n n] 76) = w1 at *
      generalize wr.heap.size = b7 at *
      clear y0 y1
      have x0 := HX1.out.cell (o := 0) (v := .int .i64 (s : Int)) rfl
      have x1 := HX1.out.cell (o := 1) (v := .slice (some ⟨t.b, 0, none⟩) n n) rfl
      go_region_held3 (fun w' : World => w'.cell? ⟨b7, 0, none⟩ = some (.int .i64 (s : Int)) ∧ w'.cell? ⟨b7, 1, none⟩ = some (.slice (some ⟨t.b, 0, none⟩) n n)) (first | (exact ⟨HX6.out.cell rfl, HX6.out.cell rfl⟩) | (exact ⟨HX5.out.cell rfl, HX5.out.cell rfl⟩) | go_keep) (first | (go_at_call 21; refine (H21i.out _ (below_drew HR1.out)).mono ?_; rintro e w5 ⟨rfl, hb5⟩; have HR5 := Aside0.mk (bel_then (below_drew HR1.out) hb5); have HX5 := Aside0.mk ((HX1.out.below (below_drew (Below.refl _ _))).below hb5); clear hb5) | (go_at_call 35; refine (H35i.out _ HR5.out).mono ?_; rintro e w6 ⟨rfl, hb6⟩; have HR6 := Aside0.mk (bel_then HR5.out hb6); have HX6 := Aside0.mk (HX5.out.below hb6); clear hb6))
      clear x0 x1 H21i H35i HR1 HX1 HX5 HR5
      have z0 := HX6.out.cell (o := 0) (v := .int .i64 (s : Int)) rfl
      have z1 := HX6.out.cell (o := 1) (v := .slice (some ⟨t.b, 0, none⟩) n n) rfl
      go_wp2_with fail
      clear z0 z1
      go_loopg [37] n (fun k v37 wr => ∃ j : Nat, j + k = n ∧ v37 = .int .i64 (j : Int) ∧ Aside0 (Below w.heap.size w wr) ∧ Aside0 (Blk wr b7 76 #[.int .i64 (s : Int), .slice (some ⟨t.b, 0, none⟩) n n]))
      case atStart => exact ⟨0, by omega, rfl, HR6, HX6⟩
      case round =>
        clear HR6 HX6
        obtain ⟨j, hjk, rfl, HR7, HX7⟩ := hrel
        have p0 : (0 : Int) ≤ (j : Int) := by omega
        by_cases hj : j < n
        · have p1 : (j : Int) < (n : Int) := by omega
          have p1' : decide (j < n) = true := by simp; omega
          have y2 := HW.out _ HR7.out j hj
          have H20j := Aside0.mk (fun wx hb => H20i.out wx hb j)
          generalize t.t.xs.getD j 0 = x at *
          by_cases h3 : j < 300
          · have h3' : decide ((j : Int) < 300) = true := by simp; omega
            go_wp2_with (first | ((try (refine gate_guard (by rfl) ?_; dsimp only)); go_at_call 20; (with_reducible refine (H20j.out _ HR7.out).mono ?_); rintro e w8 ⟨rfl, hb8⟩; have HR8 := Aside0.mk (bel_then HR7.out hb8); have HX8 := Aside0.mk (HX7.out.below hb8); clear hb8 y2))
            go_roundg (n - (j + 1))
            case measure => omega
            case rel => exact ⟨j + 1, by omega, by go_num, HR8, HX8⟩
          · have h3' : decide ((j : Int) < 300) = false := by simp; omega
            go_wp2_with fail
            go_roundg (n - (j + 1))
            case measure => omega
            case rel => exact ⟨j + 1, by omega, by go_num, HR7, HX7⟩
        · have p1' : decide (j < n) = false := by simp; omega
          have z0 := HX7.out.cell (o := 0) (v := .int .i64 (s : Int)) rfl
          have z1 := HX7.out.cell (o := 1) (v := .slice (some ⟨t.b, 0, none⟩) n n) rfl
          go_wp2_with (first | (go_at_call 26; (with_reducible refine (H26.out _ HR7.out).mono ?_); rintro e w9 ⟨rfl, hb9⟩; have HR9 := Aside0.mk (bel_then HR7.out hb9); clear hb9 z0 z1))
          go_roundg (ts.length - (i + 1))
          case measure => omega
          case rel => exact ⟨i + 1, by omega, by go_num, by rw [HS.out, ← Nat.add_assoc, hSS]; go_num, HR9⟩
    · have q1' : decide (i < ts.length) = false := by simp; omega
      have hT : (ts.map (·.t)).take i = ts.map (·.t) := List.take_of_length_le (by rw [List.length_map]; omega)
      rw [hT]
      have H21e : Aside0 (∀ wx, Below w.heap.size w wx → Calls Try.prog 21 #[.pointer (some ⟨ga, 0, none⟩), .int .i64 ((1 + sumT (cvt ls) (ts.map (·.t)) : Nat) : Int)] wx fun e w' => e = .returned (.int .i64 (-1)) ∧ Below wx.heap.size wx w') := ⟨fun wx hb => by have := H21.out wx hb ((1 + sumT (cvt ls) (ts.map (·.t)) : Nat) : Int); rw [find_end] at this; exact this⟩
      have H35e : Aside0 (∀ wx, Below w.heap.size w wx → Calls Try.prog 35 #[.pointer (some ⟨ga, 0, none⟩), .int .i64 ((1 + sumT (cvt ls) (ts.map (·.t)) : Nat) : Int)] wx fun e w' => e = .returned (.int .i64 0) ∧ Below wx.heap.size wx w') := ⟨fun wx hb => by have := H35.out wx hb ((1 + sumT (cvt ls) (ts.map (·.t)) : Nat) : Int); rw [find_end] at this; exact this⟩
      have H21z : Aside0 (∀ wx, Below w.heap.size w wx → Calls Try.prog 21 #[.pointer (some ⟨ga, 0, none⟩), .int .i64 0] wx fun e w' => e = .returned (.int .i64 (-1)) ∧ Below wx.heap.size wx w') := ⟨fun wx hb => by have := H21.out wx hb 0; rw [find_zero] at this; exact this⟩
      clear hT H21 H35 H20
      generalize ((1 + sumT (cvt ls) (ts.map (·.t)) : Nat) : Int) = Z at *
      go_wp2_with (first | ((try (refine gate_guard (by rfl) ?_; dsimp only)); go_at_call 21; (with_reducible refine (H21e.out _ HR.out).mono ?_); rintro e w5 ⟨rfl, hb5⟩; have HR5 := Aside0.mk (bel_then HR.out hb5); clear hb5 H21e) | ((try (refine gate_guard (by rfl) ?_; dsimp only)); go_at_call 35; (with_reducible refine (H35e.out _ HR5.out).mono ?_); rintro e w6 ⟨rfl, hb6⟩; have HR6 := Aside0.mk (bel_then HR5.out hb6); clear hb6) | ((try (refine gate_guard (by rfl) ?_; dsimp only)); go_at_call 21; (with_reducible refine (H21z.out _ HR6.out).mono ?_); rintro e w7 ⟨rfl, hb7⟩; have HR7 := Aside0.mk (bel_then HR6.out hb7); clear hb7))
      (try go_ret)
      exact ⟨rfl, HR7.out⟩
end
end Go.Proofs.Ytibhjlmffgabgaa.PAll
