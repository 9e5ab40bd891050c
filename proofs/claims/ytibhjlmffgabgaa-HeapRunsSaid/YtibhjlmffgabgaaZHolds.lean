import Derived.Test.YtibhjlmffgabgaaZAbs
namespace Go.Proofs.Ytibhjlmffgabgaa.PAll
open Go.RowKit Go.Proofs.YtibhjlmffgabgaaW.PrintWords Go.Proofs.YtibhjlmffgabgaaW.PrintLast Go.Proofs.YtibhjlmffgabgaaW.PrintMore
open Go.Proofs.Ytibhjlmffgabgaa.MapInt
set_option linter.unusedVariables false
set_option linter.unusedSimpArgs false
def exS : List S65 := [⟨[false], false, false⟩]
def exT : List Thg := [⟨0, [0]⟩, ⟨0, [7]⟩]
theorem ex_r {x : Int} (h : Rch exS exT [3] x) : x = 3 := by
  cases h with
  | root h1 _ => simpa using h1
  | step h1 h2 h3 h4 _ =>
    exfalso
    have h5 := (find_ge _ _ _ _ h2).2.2
    unfold exT at h5
    simp at h5
    rcases h5 with rfl | rfl
    · simp at h3; subst h3; exact absurd h4 (by decide)
    · simp at h3; subst h3; exact absurd h4 (by decide)
theorem ex_S {S : Int → Bool} (h : ∀ x, S x = true ↔ Rch exS exT [3] x) : S 1 = false ∧ S 3 = true := by
  refine ⟨?_, (h 3).2 (.root (by simp) (by decide))⟩
  cases e : S 1 with
  | false => rfl
  | true => have := ex_r ((h 1).1 e); omega
theorem ex_new {S : Int → Bool} (h : ∀ x, S x = true ↔ Rch exS exT [3] x) : [(3 : Int)].map (ref1 (newF exS S exT)) = [1] ∧ clrT exS S exT = [⟨0, [7]⟩] := by
  obtain ⟨h1, h3⟩ := ex_S h
  have hz : ∀ l, tsz exS ⟨0, [l]⟩ = 2 := fun l => rfl
  have e1 : newF exS S exT 3 = some 1 := by
    unfold newF exT toF
    rw [if_neg (by rw [show (((1 : Nat) : Int)) = 1 from rfl, h1]; decide), hz]
    unfold toF
    rw [if_pos (by exact h3)]
    rfl
  constructor
  · simp [ref1, e1]
  · unfold clrT
    have e2 : keepT exS S exT 1 = [⟨0, [7]⟩] := by
      unfold exT keepT
      rw [if_neg (by rw [show (((1 : Nat) : Int)) = 1 from rfl, h1]; decide), hz]
      unfold keepT
      rw [if_pos (by exact h3)]
      rfl
    rw [e2]
    rfl
theorem ex_m1 : makeF 10 exS [] 0 0 = ([⟨0, [0]⟩], 1) := by rfl
theorem ex_m2 : makeF 10 exS [⟨0, [0]⟩] 0 0 = ([⟨0, [0]⟩, ⟨0, [0]⟩], 3) := by rfl
theorem ex_s : setT exS [⟨0, [0]⟩, ⟨0, [0]⟩] 1 3 0 7 = exT := by rfl
theorem ex_g : getF exS [⟨0, [7]⟩] 1 0 = 7 := by rfl
theorem ex_f : freeF 10 exS [⟨0, [7]⟩] = 8 := by rfl
theorem own_C {w : World} {B : Nat} {v : Value} {l : List Int} (h : w.ownsRow B 3 1 v l.length (nums .i64 l)) : ∃ A c, v = .slice A l.length c ∧ l.length ≤ c ∧ Kd.C (Kd.int .i64) w A l.length l := by
  obtain ⟨A, c, rfl⟩ := own_slice' h
  have h1 := Kd.R_of_own (enc := Value.int .i64) (h1 := fun _ => rfl) (ok := fun _ => True) h (fun _ _ => trivial)
  have h2 := Kd.R_reads' h1
  exact ⟨A, c, rfl, h2.2⟩
theorem own_one {w : World} {B : Nat} {v : Value} {x : Int} (h : w.ownsRow B 3 1 v 1 (nums .i64 [x])) : ∃ ad c, v = .slice (some ad) 1 c ∧ w.cell? ad = some (.int .i64 x) := by
  obtain ⟨A, c, rfl, _, hC⟩ := own_C (l := [x]) h
  obtain ⟨ad, rfl, hcx⟩ := Kd.at_int hC 0 (by simp) (by simp)
  exact ⟨ad, c, rfl, hcx⟩
theorem object_ex {W w : World} {g : Nat} (h : AW W w g 10 [] [] 0) : Calls Try.prog 15 #[.pointer (some ⟨g, 0, none⟩), .slice (some ⟨w.heap.size, 0, none⟩) 1 1] (w.alloc (.cells #[.int .i64 1] 3)) fun e w' => e = .returned (.int .i64 0) ∧ AW W w' g 10 exS [] 0 :=
  object_aw (h.below (below_alloc (Below.refl _ _) _)) (by decide) (lit_C w [1] (by decide)) (by decide) (by decide)
theorem clear_ex {W w : World} {g : Nat} (h : AW W w g 10 exS exT 0) : Calls Try.prog 14 #[.pointer (some ⟨g, 0, none⟩), .slice (some ⟨w.heap.size, 0, none⟩) 1 1] (w.alloc (.cells #[.int .i64 3] 3)) fun e w' => ∃ ad c, e = .returned (.slice (some ad) 1 c) ∧ w'.cell? ad = some (.int .i64 1) ∧ AW W w' g 10 exS [⟨0, [7]⟩] 1 := by
  refine (clear_lit h (by decide) [3] (by decide) (by simp; exact ⟨by decide, by decide⟩)).mono ?_
  rintro e w' ⟨S, v, rfl, h1, h2, h3⟩
  rw [(ex_new h1).2] at h3
  rw [(ex_new h1).1] at h2
  obtain ⟨ad, c, rfl, h4⟩ := own_one h2
  exact ⟨ad, c, rfl, h4, h3⟩
theorem get_aw {W w : World} {g most : Nat} {shs : List S65} {T : List Thg} {mv : Int} (h : AW W w g most shs T mv) (a i : Int) : Calls Try.prog 20 #[.pointer (some ⟨g, 0, none⟩), .int .i64 a, .int .i64 i] w fun e w' => e = .returned (.int .i64 (getF shs T a i)) ∧ Below w.heap.size w w' := by
  obtain ⟨⟨P, h1, _⟩, _⟩ := h
  exact get_az h1 a i
theorem free_aw {W w : World} {g most : Nat} {shs : List S65} {T : List Thg} {mv : Int} (h : AW W w g most shs T mv) : Calls Try.prog 13 #[.pointer (some ⟨g, 0, none⟩)] w fun e w' => e = .returned (.int .i64 (freeF most shs T)) ∧ Below w.heap.size w w' := by
  obtain ⟨⟨P, h1, _⟩, _⟩ := h
  exact free_az h1
set_option maxHeartbeats 8000000 in
set_option maxRecDepth 100000 in
theorem holds_calls (w : World) : Calls Try.prog 9 #[] w fun e w' => e = .returned (.bool true) ∧ Below w.heap.size w w' := by
  have HB := Aside0.mk (Below.refl w.heap.size w)
  have H10 : Aside0 (Calls Try.prog 10 #[.int .i64 10] w fun e w' => ∃ g, e = .returned (.tuple #[.pointer (some ⟨g, 0, none⟩), .int .i64 0]) ∧ AW w w' g 10 [] [] 0) := ⟨new_aw HB.out 10 (by decide) (by decide)⟩
  clear HB
  go_enter Try.func9, Try.ntmps9
  go_wp2_with (first | (go_at_call 10; (with_reducible refine (H10.out).mono ?_); rintro e w1 ⟨g, rfl, ha1⟩; have HA1 := Aside0.mk ha1; clear ha1 H10) | (go_at_call 15; (with_reducible refine (object_ex HA1.out).mono ?_); rintro e w2 ⟨rfl, ha2⟩; have H12 := Aside0.mk (make_aw ha2 0 0); rw [ex_m1] at H12; clear ha2 HA1) | (go_at_call 12; (with_reducible refine (H12.out).mono ?_); rintro e w3 ⟨rfl, ha3⟩; have HX := Aside0.mk (make_aw ha3 0 0); rw [ex_m2] at HX; clear ha3 H12) | (go_at_call 12; (with_reducible refine (HX.out).mono ?_); rintro e w4 ⟨rfl, ha4⟩; have H16 := Aside0.mk (set_aw ha4 3 0 7 ⟨by decide, by decide⟩); rw [ex_s] at H16; clear ha4 HX) | (go_at_call 16; (with_reducible refine (H16.out).mono ?_); rintro e w5 ⟨rfl, ha5⟩; have H14 := Aside0.mk (clear_ex ha5); clear ha5 H16) | (go_at_call 14; (with_reducible refine (H14.out).mono ?_); rintro e w6 ⟨ad, c, rfl, hc6, ha6⟩; have HA6 := Aside0.mk ha6; have H20 := Aside0.mk (get_aw ha6 1 0); rw [ex_g] at H20; clear ha6 H14) | ((try (refine gate_guard (by rfl) ?_; dsimp only)); go_at_call 20; (with_reducible refine (H20.out).mono ?_); rintro e w7 ⟨rfl, hb7⟩; have HA7 := Aside0.mk (HA6.out.below hb7); have H13 := Aside0.mk (free_aw HA7.out); rw [ex_f] at H13; clear hb7 H20 HA6 hc6) | ((try (refine gate_guard (by rfl) ?_; dsimp only)); go_at_call 13; (with_reducible refine (H13.out).mono ?_); rintro e w8 ⟨rfl, hb8⟩; have HB8 := Aside0.mk (HA7.out.below hb8).bel; clear hb8 H13 HA7))
  (try go_ret)
  exact ⟨rfl, HB8.out⟩
end Go.Proofs.Ytibhjlmffgabgaa.PAll
