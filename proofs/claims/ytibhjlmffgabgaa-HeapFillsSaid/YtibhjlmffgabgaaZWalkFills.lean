import Derived.Test.YtibhjlmffgabgaaZHolds
namespace Go.Proofs.Ytibhjlmffgabgaa.PAll
open Go.RowKit Go.Proofs.YtibhjlmffgabgaaW.PrintWords Go.Proofs.YtibhjlmffgabgaaW.PrintLast Go.Proofs.YtibhjlmffgabgaaW.PrintMore
open Go.Proofs.Ytibhjlmffgabgaa.MapInt
set_option linter.unusedVariables false
set_option linter.unusedSimpArgs false
def arS : List S65 := [⟨[], true, false⟩]
def arT (n : Nat) : Thg := ⟨0, List.replicate n 0⟩
theorem ar_tsz (n : Nat) : tsz arS (arT n) = n + 2 := by
  unfold tsz arT
  have : (shOf arS 0).f1 = true := rfl
  rw [this, if_pos rfl, List.length_replicate]; omega
theorem ar_sum (n : Nat) : ∀ k, sumT arS (List.replicate k (arT n)) = k * (n + 2)
  | 0 => by simp [sumT]
  | k + 1 => by rw [List.replicate_succ, sum_cons, ar_tsz, ar_sum n k, Nat.add_mul]; omega
theorem ar_size (n : Nat) (h : n ≤ 131072) : sizeF arS 0 n = 2 + n := by
  unfold sizeF
  have h1 : (shOf arS (0 : Int).toNat).f1 = true := rfl
  have h2 : arS.length = 1 := rfl
  rw [if_neg (by omega), if_pos h1]
theorem ar_newT (n : Nat) : newT arS 0 n = arT n := by
  unfold newT arT
  have h1 : (shOf arS (0 : Int).toNat).f1 = true := rfl
  rw [if_pos h1, Int.toNat_natCast]; rfl
theorem ar_make (m n k x : Nat) (hx : x ≤ 131072) (h : k * (n + 2) + (x + 2) ≤ m) : makeF m arS (List.replicate k (arT n)) 0 x = (List.replicate k (arT n) ++ [arT x], 1 + ((k * (n + 2) : Nat) : Int)) := by
  unfold makeF freeF
  rw [ar_size x hx, ar_sum, if_neg (by omega), ar_newT]
theorem ar_stop (m n k x : Nat) (hx : x ≤ 131072) (h : m < k * (n + 2) + (x + 2)) : makeF m arS (List.replicate k (arT n)) 0 x = (List.replicate k (arT n), 0) := by
  unfold makeF freeF
  rw [ar_size x hx, ar_sum, if_pos (by omega)]
section
variable {W w : World} {g m n k : Nat}
theorem fill_make (h : AW W w g m arS (List.replicate k (arT n)) 0) (hn : n ≤ 131072) (hk : k * (n + 2) + (n + 2) ≤ m) : Calls Try.prog 12 #[.pointer (some ⟨g, 0, none⟩), .int .i64 0, .int .i64 (n : Int)] w fun e w' => e = .returned (.int .i64 (1 + ((k * (n + 2) : Nat) : Int))) ∧ AW W w' g m arS (List.replicate (k + 1) (arT n)) 0 := by
  have := make_aw h 0 n
  rw [ar_make m n k n hn hk, ← List.replicate_succ'] at this
  exact this
theorem fill_stop (h : AW W w g m arS (List.replicate k (arT n)) 0) {x : Nat} (hx : x ≤ 131072) (hk : m < k * (n + 2) + (x + 2)) : Calls Try.prog 12 #[.pointer (some ⟨g, 0, none⟩), .int .i64 0, .int .i64 (x : Int)] w fun e w' => e = .returned (.int .i64 0) ∧ AW W w' g m arS (List.replicate k (arT n)) 0 := by
  have := make_aw h 0 x
  rw [ar_stop m n k x hx hk] at this
  exact this
theorem fill_last (h : AW W w g m arS (List.replicate k (arT n)) 0) {x : Nat} (hx : x ≤ 131072) (hk : k * (n + 2) + (x + 2) = m) : Calls Try.prog 12 #[.pointer (some ⟨g, 0, none⟩), .int .i64 0, .int .i64 (x : Int)] w fun e w' => e = .returned (.int .i64 (1 + ((k * (n + 2) : Nat) : Int))) ∧ AW W w' g m arS (List.replicate k (arT n) ++ [arT x]) 0 := by
  have := make_aw h 0 x
  rw [ar_make m n k x hx (by omega)] at this
  exact this
theorem rch_nil {shs : List S65} {T : List Thg} {x : Int} (h : Rch shs T [] x) : False := by
  induction h with
  | root h _ => cases h
  | step _ _ _ _ _ ih => exact ih
theorem clear_none {T : List Thg} {shs : List S65} {mv : Int} (h : AW W w g m shs T mv) (hmv : 0 ≤ mv ∧ mv ≤ 1000000000) : Calls Try.prog 14 #[.pointer (some ⟨g, 0, none⟩), .slice none 0 0] w fun e w' => ∃ A c, e = .returned (.slice A 0 c) ∧ AW W w' g m shs [] (mv + 1) := by
  refine (clear_aw h hmv (roots := []) (Kd.F_nil _ _ _) (Nat.le_refl _) (by simp) (by simp)).mono ?_
  rintro e w' ⟨S, v, rfl, h1, h2, h3⟩
  obtain ⟨A, c, rfl⟩ := own_slice' h2
  refine ⟨A, c, rfl, ?_⟩
  have : clrT shs S T = [] := by
    unfold clrT
    rw [keep_nil shs T 1 (fun y _ _ => by
      cases e : S y with
      | false => rfl
      | true => exact (rch_nil ((h1 y).1 e)).elim)]
    rfl
  rw [this] at h3
  exact h3
end
theorem mod_pos (a d : Int) (hd : 0 < d) (hd2 : d ≤ 100000) : ∃ r : Nat, (wrap64 (a.tmod d + d)).tmod d = (r : Int) ∧ (r : Int) < d := by
  have h1 : -d < a.tmod d := Int.lt_tmod_of_pos a hd
  have h2 : a.tmod d < d := Int.tmod_lt_of_pos a hd
  have h3 : wrap64 (a.tmod d + d) = a.tmod d + d := by unfold wrap64; omega
  rw [h3]
  have h4 := Int.tmod_lt_of_pos (a.tmod d + d) hd
  have h5 := Int.tmod_nonneg d (a := a.tmod d + d) (by omega)
  exact ⟨((a.tmod d + d).tmod d).toNat, by omega, by omega⟩
set_option maxHeartbeats 8000000 in
set_option maxRecDepth 100000 in
theorem heapFills_walk (a0 a1 : Int) (W : World) (w0 : (Lit.int .i64 a0).wf = true) (w1 : (Lit.int .i64 a1).wf = true) : Calls Try.prog 3 #[.int .i64 a0, .int .i64 a1] W fun e W' => e = .returned (.bool true) ∧ Below W.heap.size W W' := by
  obtain ⟨r, hr1, hr2⟩ := mod_pos a0 2000 (by decide) (by decide)
  obtain ⟨n, hn1, hn2⟩ := mod_pos a1 100 (by decide) (by decide)
  obtain ⟨m, hm⟩ : ∃ m : Nat, m = r + 1 := ⟨_, rfl⟩
  have hm1 : IntKind.i64.wrap ((r : Int) + 1) = (m : Int) := by rw [IntWalk.i64_in _ (by omega)]; omega
  have hm2 : wrap64 ((r : Int) + 1) = (m : Int) := by unfold wrap64; omega
  obtain ⟨q, hq⟩ : ∃ q, m / (n + 2) = q := ⟨_, rfl⟩
  obtain ⟨l, hl⟩ : ∃ l, m % (n + 2) = l := ⟨_, rfl⟩
  have hdm := Nat.div_add_mod m (n + 2)
  have hll := Nat.mod_lt m (y := n + 2) (by omega)
  rw [hq, hl] at hdm
  rw [hl] at hll
  have hdm2 : q * (n + 2) + l = m := by rw [Nat.mul_comm]; exact hdm
  have hHN : Aside0 (∀ w, Below W.heap.size W w → Calls Try.prog 10 #[.int .i64 (m : Int)] w fun e w' => ∃ g, e = .returned (.tuple #[.pointer (some ⟨g, 0, none⟩), .int .i64 0]) ∧ AW W w' g m [] [] 0) := ⟨fun w hb => new_aw hb m (by omega) (by omega)⟩
  have hm3 : m ≤ 2000 := by omega
  have HDM := Aside0.mk hdm2
  have HQ : Aside0 ((m : Int) / ((n : Int) + 2) = (q : Int) ∧ (m : Int) % ((n : Int) + 2) = (l : Int)) := ⟨by rw [← hq]; push_cast; rfl, by rw [← hl]; push_cast; rfl⟩
  have hqm : q ≤ 2000 := by
    have : q ≤ q * (n + 2) := Nat.le_mul_of_pos_right q (by omega)
    omega
  clear hm hdm hdm2 hq hl
  go_enter Try.func3, Try.ntmps3
  go_wp2_with (first | (go_at_call 9; (with_reducible refine (holds_calls _).mono ?_); rintro e w1 ⟨rfl, hb1⟩; have HB1 := Aside0.mk hb1; clear hb1) | (go_at_call 10; (with_reducible refine (hHN.out _ HB1.out).mono ?_); rintro e w2 ⟨g, rfl, ha2⟩; have HA2 := Aside0.mk ha2; clear ha2 hHN HB1) | (go_at_call 11; (with_reducible refine (array_aw HA2.out (by decide) 2).mono ?_); rintro e w3 ⟨rfl, ha3⟩; have HA3 : Aside0 (AW W w3 g m arS [] 0) := ⟨ha3⟩; clear ha3 HA2))
  clear hr1 hn1 hm1 hm2
  go_loopw [8] (fun v8 wr => ∃ k : Nat, k ≤ q ∧ v8 = .int .i64 (k : Int) ∧ Aside0 (AW W wr g m arS (List.replicate k (arT n)) 0)) (fun v8 _ => q - (intOf v8).toNat)
  case atStart => exact ⟨0, Nat.zero_le _, rfl, HA3⟩
  case round =>
    clear HA3
    obtain ⟨k, hk, rfl, HA⟩ := hrel
    by_cases hkq : k < q
    · have hf : k * (n + 2) + (n + 2) ≤ m := by
        have h1 : (k + 1) * (n + 2) ≤ q * (n + 2) := Nat.mul_le_mul_right _ (by omega)
        rw [Nat.add_mul, Nat.one_mul] at h1
        have := HDM.out; omega
      have HM := Aside0.mk (fill_make HA.out (by omega) hf)
      obtain ⟨p, hp⟩ : ∃ p, k * (n + 2) = p := ⟨_, rfl⟩
      rw [hp] at HM hf
      have hp2 : (k : Int) * ((n : Int) + 2) = (p : Int) := by rw [← hp]; push_cast; rfl
      clear hp
      go_wp2_with (first | (go_at_call 12; (with_reducible refine (HM.out).mono ?_); rintro e w4 ⟨rfl, ha4⟩; have HA4 := Aside0.mk ha4; clear ha4 HM HA))
      go_roundw
      case rel => exact ⟨k + 1, by omega, by go_num, HA4⟩
      case measure => (simp [intOf]; omega)
    · obtain rfl : k = q := by omega
      have HM := Aside0.mk (fill_stop HA.out (x := n) (by omega) (by have := HDM.out; omega))
      obtain ⟨hq1, hl1⟩ := HQ.out
      obtain ⟨p, hp⟩ : ∃ p, k * (n + 2) = p := ⟨_, rfl⟩
      have hpl : p + l = m := by rw [← hp]; exact HDM.out
      have HP := Aside0.mk hp
      have HF4 : Aside0 (∀ w, AW W w g m arS (List.replicate k (arT n)) 0 → Calls Try.prog 13 #[.pointer (some ⟨g, 0, none⟩)] w fun e w' => e = .returned (.int .i64 (l : Int)) ∧ Below w.heap.size w w') := ⟨fun w h => by
        have := free_aw h
        rw [show freeF m arS (List.replicate k (arT n)) = (l : Int) by unfold freeF; rw [ar_sum, hp]; omega] at this
        exact this⟩
      have HFE : Aside0 (∀ w mv, AW W w g m arS [] mv → Calls Try.prog 13 #[.pointer (some ⟨g, 0, none⟩)] w fun e w' => e = .returned (.int .i64 (m : Int)) ∧ Below w.heap.size w w') := ⟨fun w mv h => by
        have := free_aw h
        rw [show freeF m arS [] = (m : Int) by unfold freeF; simp [sumT]] at this
        exact this⟩
      by_cases h2 : 2 ≤ l
      · have hl2 : 2 ≤ (l : Int) := by omega
        have HMA : Aside0 (∀ w, AW W w g m arS (List.replicate k (arT n)) 0 → Calls Try.prog 12 #[.pointer (some ⟨g, 0, none⟩), .int .i64 0, .int .i64 ((l : Int) - 1)] w fun e w' => e = .returned (.int .i64 0) ∧ AW W w' g m arS (List.replicate k (arT n)) 0) := ⟨fun w h => by
          have := fill_stop h (x := l - 1) (by omega) (by omega)
          rw [show (((l - 1 : Nat)) : Int) = (l : Int) - 1 by omega] at this
          exact this⟩
        have HMB : Aside0 (∀ w, AW W w g m arS (List.replicate k (arT n)) 0 → Calls Try.prog 12 #[.pointer (some ⟨g, 0, none⟩), .int .i64 0, .int .i64 ((l : Int) - 2)] w fun e w' => e = .returned (.int .i64 (1 + (p : Int))) ∧ AW W w' g m arS (List.replicate k (arT n) ++ [arT (l - 2)]) 0) := ⟨fun w h => by
          have := fill_last h (x := l - 2) (by omega) (by omega)
          rw [show (((l - 2 : Nat)) : Int) = (l : Int) - 2 by omega, hp] at this
          exact this⟩
        have HFZ : Aside0 (∀ w, AW W w g m arS (List.replicate k (arT n) ++ [arT (l - 2)]) 0 → Calls Try.prog 13 #[.pointer (some ⟨g, 0, none⟩)] w fun e w' => e = .returned (.int .i64 0) ∧ Below w.heap.size w w') := ⟨fun w h => by
          have := free_aw h
          rw [show freeF m arS (List.replicate k (arT n) ++ [arT (l - 2)]) = 0 by unfold freeF; rw [sum_app, ar_sum, sum_one, ar_tsz, hp]; omega] at this
          exact this⟩
        have hz1 : ((1 + (p : Int)) == 0) = false := by simp; omega
        have hlm : l ≤ 100000 := by omega
        clear hp hpl
        go_wp2_with (first | (go_at_call 12; (with_reducible refine (HM.out).mono ?_); rintro e w4 ⟨rfl, ha4⟩; have HA4 := Aside0.mk ha4; clear ha4 HM HA) | ((try (refine gate_guard (by rfl) ?_; dsimp only)); go_at_call 13; (with_reducible refine (HF4.out _ HA4.out).mono ?_); rintro e w5 ⟨rfl, hb5⟩; have HA5 := Aside0.mk (HA4.out.below hb5); clear hb5 HA4) | ((try (refine gate_guard (by rfl) ?_; dsimp only)); go_at_call 12; (with_reducible refine (HMA.out _ HA5.out).mono ?_); rintro e w6 ⟨rfl, ha6⟩; have HA6 := Aside0.mk ha6; clear ha6 HA5) | ((try (refine gate_guard (by rfl) ?_; dsimp only)); go_at_call 12; (with_reducible refine (HMB.out _ HA6.out).mono ?_); rintro e w7 ⟨rfl, ha7⟩; have HA7 := Aside0.mk ha7; clear ha7 HA6) | ((try (refine gate_guard (by rfl) ?_; dsimp only)); go_at_call 13; (with_reducible refine (HFZ.out _ HA7.out).mono ?_); rintro e w8 ⟨rfl, hb8⟩; have HA8 := Aside0.mk (HA7.out.below hb8); clear hb8 HA7) | (go_at_call 14; (with_reducible refine (clear_none HA8.out (by decide)).mono ?_); rintro e w9 ⟨A, c, rfl, ha9⟩; have HA9 := Aside0.mk ha9; clear ha9 HA8) | ((try (refine gate_guard (by rfl) ?_; dsimp only)); go_at_call 13; (with_reducible refine (HFE.out _ _ HA9.out).mono ?_); rintro e w10 ⟨rfl, hb10⟩; have HB := Aside0.mk (HA9.out.below hb10).bel; clear hb10 HA9))
        (try go_ret)
        exact ⟨rfl, HB.out⟩
      · have hl2 : ¬ 2 ≤ (l : Int) := by omega
        clear hp hpl
        go_wp2_with (first | (go_at_call 12; (with_reducible refine (HM.out).mono ?_); rintro e w4 ⟨rfl, ha4⟩; have HA4 := Aside0.mk ha4; clear ha4 HM HA) | ((try (refine gate_guard (by rfl) ?_; dsimp only)); go_at_call 13; (with_reducible refine (HF4.out _ HA4.out).mono ?_); rintro e w5 ⟨rfl, hb5⟩; have HA8 := Aside0.mk (HA4.out.below hb5); clear hb5 HA4) | (go_at_call 14; (with_reducible refine (clear_none HA8.out (by decide)).mono ?_); rintro e w9 ⟨A, c, rfl, ha9⟩; have HA9 := Aside0.mk ha9; clear ha9 HA8) | ((try (refine gate_guard (by rfl) ?_; dsimp only)); go_at_call 13; (with_reducible refine (HFE.out _ _ HA9.out).mono ?_); rintro e w10 ⟨rfl, hb10⟩; have HB := Aside0.mk (HA9.out.below hb10).bel; clear hb10 HA9))
        (try go_ret)
        exact ⟨rfl, HB.out⟩
end Go.Proofs.Ytibhjlmffgabgaa.PAll
