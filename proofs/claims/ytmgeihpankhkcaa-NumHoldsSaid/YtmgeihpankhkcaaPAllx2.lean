-- Printed by this session's own program wip/tools/pp.py (the kit's printer with hooks of the session's); not a text of print.sh.
import Derived.Test.YtmgeihpankhkcaaPAllx0
import Derived.Test.YtmgeihpankhkcaaPAllx1
namespace Go.Proofs.Ytmgeihpankhkcaa.PAll
open Go.RowKit Go.Proofs.YtmgeihpankhkcaaW.PrintWords Go.Proofs.YtmgeihpankhkcaaW.PrintLast Go.Proofs.YtmgeihpankhkcaaW.PrintMore
attribute [local go_sem] max2_int min2_int max_two min_two max_three min_three max_four min_four   -- for this text's walks alone
set_option linter.unusedVariables false
set_option linter.unusedSimpArgs false

/-! ### num_One: function 19 -/
def num_One.j0 : Nat → Int → Int → Bool → Option (Int)
  | 0, _, _, _ => none
  | k + 1, x1, x5, x16 => if x16 = true then (some (wrap64 (wrap32 (x1)))) else (if x5 = 145 then (some (wrap64 (IntKind.i8.wrap (x1)))) else (if x5 = 146 then (some (wrap64 (IntKind.u16.wrap (x1)))) else (if x5 = 147 then (some (wrap64 (IntKind.i16.wrap (x1)))) else (some 0))))
def num_One.f (k : Nat) (a0 : Int) (a1 : Int) : Option (Int) := if a0 = 116 then (some (wrap64 (wrap32 (-(wrap32 (a1)))))) else (if a0 = 117 then (some (wrap64 (-a1))) else (if a0 = 133 then (num_One.j0 k a1 a0 (a0 == 133)) else (num_One.j0 k a1 a0 (a0 == 136))))
theorem num_One.mono_l : ∀ k, (∀ y0 y1 y2, LeO (num_One.j0 k y0 y1 y2) (num_One.j0 (k + 1) y0 y1 y2))
  | 0 => fun _ _ _ r h => by simp [num_One.j0] at h
  | k + 1 => by
    have ih0 := num_One.mono_l k
    · intro y0 y1 y2
      unfold num_One.j0
      repeat' first
      | (with_reducible exact ih0 _ _ _)
      | (with_reducible exact LeO.refl _)
      | (with_reducible exact LeO.none _)
      | (with_reducible refine LeO.ite ?_ ?_)
      | (with_reducible refine LeO.bind ?_ (fun _ => ?_))
      | exact ih0 _ _ _
      | exact LeO.none _
      | refine LeO.ite ?_ ?_
      | refine LeO.bind ?_ (fun _ => ?_)
theorem num_One.mono : ∀ a0 a1 k, LeO (num_One.f k a0 a1) (num_One.f (k + 1) a0 a1) := by
  intro a0 a1 k
  have ih0 := num_One.mono_l k
  unfold num_One.f
  repeat' first
      | (with_reducible exact ih0 _ _ _)
      | (with_reducible exact LeO.refl _)
      | (with_reducible exact LeO.none _)
      | (with_reducible refine LeO.ite ?_ ?_)
      | (with_reducible refine LeO.bind ?_ (fun _ => ?_))
      | exact ih0 _ _ _
      | exact LeO.none _
      | refine LeO.ite ?_ ?_
      | refine LeO.bind ?_ (fun _ => ?_)
set_option maxHeartbeats 8000000 in
set_option maxRecDepth 100000 in
theorem num_One.calls (k : Nat) (a0 : Int) (a1 : Int) (r : Int) (w : World) (h : num_One.f k a0 a1 = some r) :
    Calls Try.prog 19 #[.int .i64 a0, .int .i64 a1] w fun e w' => e = .returned (.int .i64 r) ∧ Drawn0 w w' := by
  have H : (if a0 = 116 then (some (wrap64 (wrap32 (-(wrap32 (a1)))))) else (if a0 = 117 then (some (wrap64 (-a1))) else (if a0 = 133 then (num_One.j0 k a1 a0 (a0 == 133)) else (num_One.j0 k a1 a0 (a0 == 136))))) = some r := h
  clear h
  by_cases c3 : a0 = 116
  · rw [if_pos c3] at H
    have c3b0 : (a0 == 116) = true := beq_iff_eq.mpr c3
    have c3b1 : (a0 != 116) = false := bne_eq_false_iff_eq.mpr c3
    clear c3
    obtain rfl := Option.some.inj H
    go_enter Try.func19, Try.ntmps19
    go_wp2
    go_ret
    exact ⟨by first | rfl | (simp; done) | (simp [*]; done), by repeat (first | exact Drawn0.refl _ | apply Drawn0.step)⟩
  · rw [if_neg c3] at H
    have c3b0 : (a0 == 116) = false := beq_eq_false_iff_ne.mpr c3
    have c3b1 : (a0 != 116) = true := bne_iff_ne.mpr c3
    by_cases c4 : a0 = 117
    · rw [if_pos c4] at H
      have c4b0 : (a0 == 117) = true := beq_iff_eq.mpr c4
      have c4b1 : (a0 != 117) = false := bne_eq_false_iff_eq.mpr c4
      clear c4
      obtain rfl := Option.some.inj H
      go_enter Try.func19, Try.ntmps19
      go_wp2
      go_ret
      exact ⟨by first | rfl | (simp; done) | (simp [*]; done), by repeat (first | exact Drawn0.refl _ | apply Drawn0.step)⟩
    · rw [if_neg c4] at H
      have c4b0 : (a0 == 117) = false := beq_eq_false_iff_ne.mpr c4
      have c4b1 : (a0 != 117) = true := bne_iff_ne.mpr c4
      have HC5 := Aside0.mk H
      clear H
      go_enter Try.func19, Try.ntmps19
      go_upto_if 16 with (fail)
      go_cut [16] (fun v16 wc => ∃ (kq : Nat) (x16_4 : Bool), v16 = .bool x16_4 ∧ Aside0 (num_One.j0 kq a1 a0 x16_4 = some r) ∧ Aside0 (kq ≤ k) ∧ Drawn0 w wc)
      case first =>
        have H := HC5.out
        clear HC5
        by_cases c6 : a0 = 133
        · rw [if_pos c6] at H
          have c6b0 : (a0 == 133) = true := beq_iff_eq.mpr c6
          have c6b1 : (a0 != 133) = false := bne_eq_false_iff_eq.mpr c6
          clear c6
          (first | rw [c6b0] | (simp only [i64_w, i32_w]; rw [c6b0]) | skip)
          have H' := Aside0.mk H
          clear H
          go_wp2
          go_meet
          case rel => exact ⟨_, ((a0 == 133)), (by first | rfl | (simp; done) | (simp [*]; done)), H', ⟨by first | omega | exact Nat.le_refl _⟩, by repeat (first | exact Drawn0.refl _ | apply Drawn0.step)⟩
        · rw [if_neg c6] at H
          have c6b0 : (a0 == 133) = false := beq_eq_false_iff_ne.mpr c6
          have c6b1 : (a0 != 133) = true := bne_iff_ne.mpr c6
          (first | rw [c6b0] | (simp only [i64_w, i32_w]; rw [c6b0]) | skip)
          have H' := Aside0.mk H
          clear H
          go_wp2
          go_meet
          case rel => exact ⟨_, ((a0 == 136)), (by first | rfl | (simp; done) | (simp [*]; done)), H', ⟨by first | omega | exact Nat.le_refl _⟩, by repeat (first | exact Drawn0.refl _ | apply Drawn0.step)⟩
      case rest =>
        clear HC5
        try clear c1
        try clear p2
        try clear c3
        try clear c3b0
        try clear c3b1
        try clear p3
        try clear c4
        try clear c4b0
        try clear c4b1
        try clear c6
        try clear c6b0
        try clear c6b1
        try clear p6
        obtain ⟨kq, x16_4, rfl, HA, HJ4, ⟨mc4, rfl⟩⟩ := hcut
        cases kq with
        | zero => exact absurd HA.out (by simp [num_One.j0])
        | succ kj4 =>
          have H := HA.out
          clear HA
          simp only [num_One.j0] at H
          by_cases c7 : x16_4 = true
          · subst c7
            have H1 : (some (wrap64 (wrap32 (a1)))) = some r := by rw [if_pos rfl] at H; exact H
            clear H
            have H := H1
            clear H1
            obtain rfl := Option.some.inj H
            go_wp2
            go_ret
            exact ⟨by first | rfl | (simp; done) | (simp [*]; done), by repeat (first | exact Drawn0.refl _ | apply Drawn0.step)⟩
          · replace c7 := Bool.eq_false_iff.mpr c7
            subst c7
            have H1 : (if a0 = 145 then (some (wrap64 (IntKind.i8.wrap (a1)))) else (if a0 = 146 then (some (wrap64 (IntKind.u16.wrap (a1)))) else (if a0 = 147 then (some (wrap64 (IntKind.i16.wrap (a1)))) else (some 0)))) = some r := by rw [if_neg (show ¬ (false = true) by decide)] at H; exact H
            clear H
            have H := H1
            clear H1
            by_cases c8 : a0 = 145
            · rw [if_pos c8] at H
              have c8b0 : (a0 == 145) = true := beq_iff_eq.mpr c8
              have c8b1 : (a0 != 145) = false := bne_eq_false_iff_eq.mpr c8
              clear c8
              obtain rfl := Option.some.inj H
              go_wp2
              go_ret
              exact ⟨by first | rfl | (simp; done) | (simp [*]; done), by repeat (first | exact Drawn0.refl _ | apply Drawn0.step)⟩
            · rw [if_neg c8] at H
              have c8b0 : (a0 == 145) = false := beq_eq_false_iff_ne.mpr c8
              have c8b1 : (a0 != 145) = true := bne_iff_ne.mpr c8
              by_cases c9 : a0 = 146
              · rw [if_pos c9] at H
                have c9b0 : (a0 == 146) = true := beq_iff_eq.mpr c9
                have c9b1 : (a0 != 146) = false := bne_eq_false_iff_eq.mpr c9
                clear c9
                obtain rfl := Option.some.inj H
                go_wp2
                go_ret
                exact ⟨by first | rfl | (simp; done) | (simp [*]; done), by repeat (first | exact Drawn0.refl _ | apply Drawn0.step)⟩
              · rw [if_neg c9] at H
                have c9b0 : (a0 == 146) = false := beq_eq_false_iff_ne.mpr c9
                have c9b1 : (a0 != 146) = true := bne_iff_ne.mpr c9
                by_cases c10 : a0 = 147
                · rw [if_pos c10] at H
                  have c10b0 : (a0 == 147) = true := beq_iff_eq.mpr c10
                  have c10b1 : (a0 != 147) = false := bne_eq_false_iff_eq.mpr c10
                  clear c10
                  obtain rfl := Option.some.inj H
                  go_wp2
                  go_ret
                  exact ⟨by first | rfl | (simp; done) | (simp [*]; done), by repeat (first | exact Drawn0.refl _ | apply Drawn0.step)⟩
                · rw [if_neg c10] at H
                  have c10b0 : (a0 == 147) = false := beq_eq_false_iff_ne.mpr c10
                  have c10b1 : (a0 != 147) = true := bne_iff_ne.mpr c10
                  obtain rfl := Option.some.inj H
                  go_wp2
                  go_ret
                  exact ⟨by first | rfl | (simp; done) | (simp [*]; done), by repeat (first | exact Drawn0.refl _ | apply Drawn0.step)⟩

/-! ### regletlaw01_holds: function 12 -/
def regletlaw01_holds.f (k : Nat)  : Option (Bool) := (num_Int.f k 108 (-7) 2).bind fun t103 => (if t103 = (-3) then ((num_Int.f k 112 (-7) 2).bind fun t104 => (if t104 = (-1) then ((num_Int.f k 120 1 33).bind fun t105 => (if t105 = 2 then ((num_Long.f k 125 (-1) 63).bind fun t106 => (if t106 = 1 then ((num_One.f k 146 (-1)).bind fun t107 => (some (t107 == 65535))) else (some false))) else (some false))) else (some false))) else (some false))
theorem regletlaw01_holds.mono : ∀ k, LeO (regletlaw01_holds.f k ) (regletlaw01_holds.f (k + 1) ) := by
  intro  k
  unfold regletlaw01_holds.f
  repeat' first
      | (with_reducible exact num_Int.mono _ _ _ _)
      | (with_reducible exact num_Long.mono _ _ _ _)
      | (with_reducible exact num_One.mono _ _ _)
      | (with_reducible exact LeO.refl _)
      | (with_reducible exact LeO.none _)
      | (with_reducible refine LeO.ite ?_ ?_)
      | (with_reducible refine LeO.bind ?_ (fun _ => ?_))
      | exact num_Int.mono _ _ _ _
      | exact num_Long.mono _ _ _ _
      | exact num_One.mono _ _ _
      | exact LeO.none _
      | refine LeO.ite ?_ ?_
      | refine LeO.bind ?_ (fun _ => ?_)
set_option maxHeartbeats 8000000 in
set_option maxRecDepth 100000 in
theorem regletlaw01_holds.calls (k : Nat)  (r : Bool) (w : World) (h : regletlaw01_holds.f k  = some r) :
    Calls Try.prog 12 #[] w fun e w' => e = .returned (.bool r) ∧ Drawn0 w w' := by
  have H : ((num_Int.f k 108 (-7) 2).bind fun t103 => (if t103 = (-3) then ((num_Int.f k 112 (-7) 2).bind fun t104 => (if t104 = (-1) then ((num_Int.f k 120 1 33).bind fun t105 => (if t105 = 2 then ((num_Long.f k 125 (-1) 63).bind fun t106 => (if t106 = 1 then ((num_One.f k 146 (-1)).bind fun t107 => (some (t107 == 65535))) else (some false))) else (some false))) else (some false))) else (some false))) = some r := h
  clear h
  replace H := Option.bind_eq_some_iff.mp H
  obtain ⟨t103, A10, H⟩ := H
  replace H : (if t103 = (-3) then ((num_Int.f k 112 (-7) 2).bind fun t104 => (if t104 = (-1) then ((num_Int.f k 120 1 33).bind fun t105 => (if t105 = 2 then ((num_Long.f k 125 (-1) 63).bind fun t106 => (if t106 = 1 then ((num_One.f k 146 (-1)).bind fun t107 => (some (t107 == 65535))) else (some false))) else (some false))) else (some false))) else (some false)) = some r := H
  have A1 := Aside0.mk A10
  clear A10
  by_cases c2 : t103 = (-3)
  · rw [if_pos c2] at H
    have c2b0 : (t103 == (-3)) = true := beq_iff_eq.mpr c2
    have c2b1 : (t103 != (-3)) = false := bne_eq_false_iff_eq.mpr c2
    clear c2
    replace H := Option.bind_eq_some_iff.mp H
    obtain ⟨t104, A30, H⟩ := H
    replace H : (if t104 = (-1) then ((num_Int.f k 120 1 33).bind fun t105 => (if t105 = 2 then ((num_Long.f k 125 (-1) 63).bind fun t106 => (if t106 = 1 then ((num_One.f k 146 (-1)).bind fun t107 => (some (t107 == 65535))) else (some false))) else (some false))) else (some false)) = some r := H
    have A3 := Aside0.mk A30
    clear A30
    by_cases c4 : t104 = (-1)
    · rw [if_pos c4] at H
      have c4b0 : (t104 == (-1)) = true := beq_iff_eq.mpr c4
      have c4b1 : (t104 != (-1)) = false := bne_eq_false_iff_eq.mpr c4
      clear c4
      replace H := Option.bind_eq_some_iff.mp H
      obtain ⟨t105, A50, H⟩ := H
      replace H : (if t105 = 2 then ((num_Long.f k 125 (-1) 63).bind fun t106 => (if t106 = 1 then ((num_One.f k 146 (-1)).bind fun t107 => (some (t107 == 65535))) else (some false))) else (some false)) = some r := H
      have A5 := Aside0.mk A50
      clear A50
      by_cases c6 : t105 = 2
      · rw [if_pos c6] at H
        have c6b0 : (t105 == 2) = true := beq_iff_eq.mpr c6
        have c6b1 : (t105 != 2) = false := bne_eq_false_iff_eq.mpr c6
        clear c6
        replace H := Option.bind_eq_some_iff.mp H
        obtain ⟨t106, A70, H⟩ := H
        replace H : (if t106 = 1 then ((num_One.f k 146 (-1)).bind fun t107 => (some (t107 == 65535))) else (some false)) = some r := H
        have A7 := Aside0.mk A70
        clear A70
        by_cases c8 : t106 = 1
        · rw [if_pos c8] at H
          have c8b0 : (t106 == 1) = true := beq_iff_eq.mpr c8
          have c8b1 : (t106 != 1) = false := bne_eq_false_iff_eq.mpr c8
          clear c8
          replace H := Option.bind_eq_some_iff.mp H
          obtain ⟨t107, A90, H⟩ := H
          replace H : (some (t107 == 65535)) = some r := H
          have A9 := Aside0.mk A90
          clear A90
          obtain rfl := Option.some.inj H
          go_enter Try.func12, Try.ntmps12
          go_wp2_with (first | ((with_reducible refine gate_callee (f := 14) rfl ?_); refine goesL_ (some 1) rfl rfl Try.func14 (by kernel_rfl) rfl #[.int .i64 108, .int .i32 (-7), .int .i32 2] rfl (by (try simp only [List.map_toArray, List.map_cons, List.map_nil]); first | done | rfl | (simp only [List.length_drop, List.length_take]; rfl)) ?_; (with_reducible refine (num_Int.calls k 108 (-7) 2 t103 _ A1.out).mono ?_); rintro e w' ⟨rfl, ⟨nd, rfl⟩⟩; refine ⟨_, rfl, ?_⟩) | (go_at_call 14; (with_reducible refine (num_Int.calls k 112 (-7) 2 t104 _ A3.out).mono ?_); rintro e w' ⟨rfl, ⟨nd, rfl⟩⟩) | (go_at_call 14; (with_reducible refine (num_Int.calls k 120 1 33 t105 _ A5.out).mono ?_); rintro e w' ⟨rfl, ⟨nd, rfl⟩⟩) | (go_at_call 15; (with_reducible refine (num_Long.calls k 125 (-1) 63 t106 _ A7.out).mono ?_); rintro e w' ⟨rfl, ⟨nd, rfl⟩⟩) | (go_at_call 19; (with_reducible refine (num_One.calls k 146 (-1) t107 _ A9.out).mono ?_); rintro e w' ⟨rfl, ⟨nd, rfl⟩⟩))
          go_ret
          exact ⟨by first | rfl | (simp; done) | (simp [*]; done), by repeat (first | exact Drawn0.refl _ | apply Drawn0.step)⟩
        · rw [if_neg c8] at H
          have c8b0 : (t106 == 1) = false := beq_eq_false_iff_ne.mpr c8
          have c8b1 : (t106 != 1) = true := bne_iff_ne.mpr c8
          obtain rfl := Option.some.inj H
          go_enter Try.func12, Try.ntmps12
          go_wp2_with (first | ((with_reducible refine gate_callee (f := 14) rfl ?_); refine goesL_ (some 1) rfl rfl Try.func14 (by kernel_rfl) rfl #[.int .i64 108, .int .i32 (-7), .int .i32 2] rfl (by (try simp only [List.map_toArray, List.map_cons, List.map_nil]); first | done | rfl | (simp only [List.length_drop, List.length_take]; rfl)) ?_; (with_reducible refine (num_Int.calls k 108 (-7) 2 t103 _ A1.out).mono ?_); rintro e w' ⟨rfl, ⟨nd, rfl⟩⟩; refine ⟨_, rfl, ?_⟩) | (go_at_call 14; (with_reducible refine (num_Int.calls k 112 (-7) 2 t104 _ A3.out).mono ?_); rintro e w' ⟨rfl, ⟨nd, rfl⟩⟩) | (go_at_call 14; (with_reducible refine (num_Int.calls k 120 1 33 t105 _ A5.out).mono ?_); rintro e w' ⟨rfl, ⟨nd, rfl⟩⟩) | (go_at_call 15; (with_reducible refine (num_Long.calls k 125 (-1) 63 t106 _ A7.out).mono ?_); rintro e w' ⟨rfl, ⟨nd, rfl⟩⟩))
          go_ret
          exact ⟨by first | rfl | (simp; done) | (simp [*]; done), by repeat (first | exact Drawn0.refl _ | apply Drawn0.step)⟩
      · rw [if_neg c6] at H
        have c6b0 : (t105 == 2) = false := beq_eq_false_iff_ne.mpr c6
        have c6b1 : (t105 != 2) = true := bne_iff_ne.mpr c6
        obtain rfl := Option.some.inj H
        go_enter Try.func12, Try.ntmps12
        go_wp2_with (first | ((with_reducible refine gate_callee (f := 14) rfl ?_); refine goesL_ (some 1) rfl rfl Try.func14 (by kernel_rfl) rfl #[.int .i64 108, .int .i32 (-7), .int .i32 2] rfl (by (try simp only [List.map_toArray, List.map_cons, List.map_nil]); first | done | rfl | (simp only [List.length_drop, List.length_take]; rfl)) ?_; (with_reducible refine (num_Int.calls k 108 (-7) 2 t103 _ A1.out).mono ?_); rintro e w' ⟨rfl, ⟨nd, rfl⟩⟩; refine ⟨_, rfl, ?_⟩) | (go_at_call 14; (with_reducible refine (num_Int.calls k 112 (-7) 2 t104 _ A3.out).mono ?_); rintro e w' ⟨rfl, ⟨nd, rfl⟩⟩) | (go_at_call 14; (with_reducible refine (num_Int.calls k 120 1 33 t105 _ A5.out).mono ?_); rintro e w' ⟨rfl, ⟨nd, rfl⟩⟩))
        go_ret
        exact ⟨by first | rfl | (simp; done) | (simp [*]; done), by repeat (first | exact Drawn0.refl _ | apply Drawn0.step)⟩
    · rw [if_neg c4] at H
      have c4b0 : (t104 == (-1)) = false := beq_eq_false_iff_ne.mpr c4
      have c4b1 : (t104 != (-1)) = true := bne_iff_ne.mpr c4
      obtain rfl := Option.some.inj H
      go_enter Try.func12, Try.ntmps12
      go_wp2_with (first | ((with_reducible refine gate_callee (f := 14) rfl ?_); refine goesL_ (some 1) rfl rfl Try.func14 (by kernel_rfl) rfl #[.int .i64 108, .int .i32 (-7), .int .i32 2] rfl (by (try simp only [List.map_toArray, List.map_cons, List.map_nil]); first | done | rfl | (simp only [List.length_drop, List.length_take]; rfl)) ?_; (with_reducible refine (num_Int.calls k 108 (-7) 2 t103 _ A1.out).mono ?_); rintro e w' ⟨rfl, ⟨nd, rfl⟩⟩; refine ⟨_, rfl, ?_⟩) | (go_at_call 14; (with_reducible refine (num_Int.calls k 112 (-7) 2 t104 _ A3.out).mono ?_); rintro e w' ⟨rfl, ⟨nd, rfl⟩⟩))
      go_ret
      exact ⟨by first | rfl | (simp; done) | (simp [*]; done), by repeat (first | exact Drawn0.refl _ | apply Drawn0.step)⟩
  · rw [if_neg c2] at H
    have c2b0 : (t103 == (-3)) = false := beq_eq_false_iff_ne.mpr c2
    have c2b1 : (t103 != (-3)) = true := bne_iff_ne.mpr c2
    obtain rfl := Option.some.inj H
    go_enter Try.func12, Try.ntmps12
    go_wp2_with (first | ((with_reducible refine gate_callee (f := 14) rfl ?_); refine goesL_ (some 1) rfl rfl Try.func14 (by kernel_rfl) rfl #[.int .i64 108, .int .i32 (-7), .int .i32 2] rfl (by (try simp only [List.map_toArray, List.map_cons, List.map_nil]); first | done | rfl | (simp only [List.length_drop, List.length_take]; rfl)) ?_; (with_reducible refine (num_Int.calls k 108 (-7) 2 t103 _ A1.out).mono ?_); rintro e w' ⟨rfl, ⟨nd, rfl⟩⟩; refine ⟨_, rfl, ?_⟩))
    go_ret
    exact ⟨by first | rfl | (simp; done) | (simp [*]; done), by repeat (first | exact Drawn0.refl _ | apply Drawn0.step)⟩

/-! ### regletref01_bits: function 26 -/
def regletref01_bits.f (a0 : Bool) : Option (Int) := if a0 = true then (some 64) else (some 32)
set_option maxHeartbeats 8000000 in
set_option maxRecDepth 100000 in
theorem regletref01_bits.calls (a0 : Bool) (r : Int) (w : World) (h : regletref01_bits.f a0 = some r) :
    Calls Try.prog 26 #[.bool a0] w fun e w' => e = .returned (.int .i64 r) ∧ Drawn0 w w' := by
  have H : (if a0 = true then (some 64) else (some 32)) = some r := h
  clear h
  by_cases c2 : a0 = true
  · subst c2
    have H1 : (some 64) = some r := by rw [if_pos rfl] at H; exact H
    clear H
    have H := H1
    clear H1
    obtain rfl := Option.some.inj H
    go_enter Try.func26, Try.ntmps26
    go_wp2
    go_ret
    exact ⟨by first | rfl | (simp; done) | (simp [*]; done), by repeat (first | exact Drawn0.refl _ | apply Drawn0.step)⟩
  · replace c2 := Bool.eq_false_iff.mpr c2
    subst c2
    have H1 : (some 32) = some r := by rw [if_neg (show ¬ (false = true) by decide)] at H; exact H
    clear H
    have H := H1
    clear H1
    obtain rfl := Option.some.inj H
    go_enter Try.func26, Try.ntmps26
    go_wp2
    go_ret
    exact ⟨by first | rfl | (simp; done) | (simp [*]; done), by repeat (first | exact Drawn0.refl _ | apply Drawn0.step)⟩

/-! ### regletref01_bit: function 35 -/
def regletref01_bit.f (a0 : Int) (a1 : Int) : Option (Int) := if 0 ≤ a1 then (some (Go.bits .and .i64 (shr .i64 a0 a1) 1)) else (none)
set_option maxHeartbeats 8000000 in
set_option maxRecDepth 100000 in
theorem regletref01_bit.calls (a0 : Int) (a1 : Int) (r : Int) (w : World) (h : regletref01_bit.f a0 a1 = some r) :
    Calls Try.prog 35 #[.int .i64 a0, .int .i64 a1] w fun e w' => e = .returned (.int .i64 r) ∧ Drawn0 w w' := by
  have H : (if 0 ≤ a1 then (some (Go.bits .and .i64 (shr .i64 a0 a1) 1)) else (none)) = some r := h
  clear h
  by_cases c3 : 0 ≤ a1
  · rw [if_pos c3] at H
    have c3b0 := eq_true c3
    have c3b1 : decide (0 ≤ a1) = true := decide_eq_true c3
    clear c3
    obtain ⟨ji4, hji4⟩ : ∃ j_ : Int, (shr .i64 a0 a1) = j_ := ⟨_, rfl⟩
    replace H : (some (Go.bits .and .i64 (ji4) 1)) = some r := by first | (rw [hji4] at H; exact H) | (simp only [hji4] at H ⊢; exact H)
    have hji4_ : (a0 / 2 ^ min a1.toNat 64) = ji4 := hji4
    have hji4z : a1 ≤ 64 → (a0 / 2 ^ a1.toNat) = ji4 := shr_small hji4
    obtain rfl := Option.some.inj H
    go_enter Try.func35, Try.ntmps35
    go_wp2
    go_ret
    exact ⟨by first | rfl | (simp; done) | (simp only [← hji4] <;> (first | rfl | simp)) | (simp [*]; done), by repeat (first | exact Drawn0.refl _ | apply Drawn0.step)⟩
  · rw [if_neg c3] at H
    exact absurd H (by simp)

/-! ### regletref01_cut: function 33 -/
def regletref01_cut.f (a0 : Int) (a1 : Int) : Option (Int) := if a1 = 64 then (some a0) else (if 0 ≤ a1 then (if (shl .i64 1 a1) = 0 then (none) else (if (Int.tmod (wrap64 ((Int.tmod a0 (shl .i64 1 a1)) + (shl .i64 1 a1))) (shl .i64 1 a1)) ≥ (wrap64 (Int.tdiv (shl .i64 1 a1) 2)) then (some (wrap64 ((Int.tmod (wrap64 ((Int.tmod a0 (shl .i64 1 a1)) + (shl .i64 1 a1))) (shl .i64 1 a1)) - (shl .i64 1 a1)))) else (some (Int.tmod (wrap64 ((Int.tmod a0 (shl .i64 1 a1)) + (shl .i64 1 a1))) (shl .i64 1 a1))))) else (none))
set_option maxHeartbeats 8000000 in
set_option maxRecDepth 100000 in
theorem regletref01_cut.calls (a0 : Int) (a1 : Int) (r : Int) (w : World) (h : regletref01_cut.f a0 a1 = some r) :
    Calls Try.prog 33 #[.int .i64 a0, .int .i64 a1] w fun e w' => e = .returned (.int .i64 r) ∧ Drawn0 w w' := by
  have H : (if a1 = 64 then (some a0) else (if 0 ≤ a1 then (if (shl .i64 1 a1) = 0 then (none) else (if (Int.tmod (wrap64 ((Int.tmod a0 (shl .i64 1 a1)) + (shl .i64 1 a1))) (shl .i64 1 a1)) ≥ (wrap64 (Int.tdiv (shl .i64 1 a1) 2)) then (some (wrap64 ((Int.tmod (wrap64 ((Int.tmod a0 (shl .i64 1 a1)) + (shl .i64 1 a1))) (shl .i64 1 a1)) - (shl .i64 1 a1)))) else (some (Int.tmod (wrap64 ((Int.tmod a0 (shl .i64 1 a1)) + (shl .i64 1 a1))) (shl .i64 1 a1))))) else (none))) = some r := h
  clear h
  by_cases c3 : a1 = 64
  · rw [if_pos c3] at H
    have c3b0 : (a1 == 64) = true := beq_iff_eq.mpr c3
    have c3b1 : (a1 != 64) = false := bne_eq_false_iff_eq.mpr c3
    clear c3
    obtain rfl := Option.some.inj H
    go_enter Try.func33, Try.ntmps33
    go_wp2
    go_ret
    exact ⟨by first | rfl | (simp; done) | (simp [*]; done), by repeat (first | exact Drawn0.refl _ | apply Drawn0.step)⟩
  · rw [if_neg c3] at H
    have c3b0 : (a1 == 64) = false := beq_eq_false_iff_ne.mpr c3
    have c3b1 : (a1 != 64) = true := bne_iff_ne.mpr c3
    by_cases c4 : 0 ≤ a1
    · rw [if_pos c4] at H
      have c4b0 := eq_true c4
      have c4b1 : decide (0 ≤ a1) = true := decide_eq_true c4
      clear c4
      obtain ⟨ji5, hji5⟩ : ∃ j_ : Int, (shl .i64 1 a1) = j_ := ⟨_, rfl⟩
      replace H : (if (ji5) = 0 then (none) else (if (Int.tmod (wrap64 ((Int.tmod a0 (ji5)) + (ji5))) (ji5)) ≥ (wrap64 (Int.tdiv (ji5) 2)) then (some (wrap64 ((Int.tmod (wrap64 ((Int.tmod a0 (ji5)) + (ji5))) (ji5)) - (ji5)))) else (some (Int.tmod (wrap64 ((Int.tmod a0 (ji5)) + (ji5))) (ji5))))) = some r := by first | (rw [hji5] at H; exact H) | (simp only [hji5] at H ⊢; exact H)
      have hji5_ : (IntKind.i64.wrap (1 * 2 ^ min a1.toNat 64)) = ji5 := hji5
      have hji5z : a1 ≤ 64 → (IntKind.i64.wrap (1 * 2 ^ a1.toNat)) = ji5 := shl_small hji5
      have hji5u : (IntKind.i64.wrap (2 ^ min a1.toNat 64)) = ji5 := by have h_ := hji5_; rw [Int.one_mul] at h_; exact h_
      have hji5v : a1 ≤ 64 → (IntKind.i64.wrap (2 ^ a1.toNat)) = ji5 := fun hle_ => by have h_ := hji5z hle_; rw [Int.one_mul] at h_; exact h_
      have hji5y : (wrap64 (1 * 2 ^ min a1.toNat 64)) = ji5 := (i64_w _).symm.trans hji5_
      have hji5x : a1 ≤ 64 → (wrap64 (1 * 2 ^ a1.toNat)) = ji5 := fun h_ => (i64_w _).symm.trans (hji5z h_)
      by_cases c6 : (ji5) = 0
      · rw [if_pos c6] at H
        exact absurd H (by simp)
      · rw [if_neg c6] at H
        have c6b0 : ((ji5) == 0) = false := beq_eq_false_iff_ne.mpr c6
        have c6b1 : ((ji5) != 0) = true := bne_iff_ne.mpr c6
        by_cases c7 : (Int.tmod (wrap64 ((Int.tmod a0 (ji5)) + (ji5))) (ji5)) ≥ (wrap64 (Int.tdiv (ji5) 2))
        · rw [if_pos c7] at H
          have c7b0 : decide ((wrap64 (Int.tdiv (ji5) 2)) ≤ (Int.tmod (wrap64 ((Int.tmod a0 (ji5)) + (ji5))) (ji5))) = true := decide_eq_true c7
          clear c7
          obtain rfl := Option.some.inj H
          go_enter Try.func33, Try.ntmps33
          go_wp2
          go_ret
          exact ⟨by first | rfl | (simp; done) | (simp only [← hji5] <;> (first | rfl | simp)) | (simp [*]; done), by repeat (first | exact Drawn0.refl _ | apply Drawn0.step)⟩
        · rw [if_neg c7] at H
          have c7b0 : decide ((wrap64 (Int.tdiv (ji5) 2)) ≤ (Int.tmod (wrap64 ((Int.tmod a0 (ji5)) + (ji5))) (ji5))) = false := decide_eq_false c7
          clear c7
          obtain rfl := Option.some.inj H
          go_enter Try.func33, Try.ntmps33
          go_wp2
          go_ret
          exact ⟨by first | rfl | (simp; done) | (simp only [← hji5] <;> (first | rfl | simp)) | (simp [*]; done), by repeat (first | exact Drawn0.refl _ | apply Drawn0.step)⟩
    · rw [if_neg c4] at H
      exact absurd H (by simp)

/-! ### regletref01_made: function 36 -/
def regletref01_made.l0 : Nat → List Int → Int → Int → Int → Option (Int)
  | 0, _, _, _, _ => none
  | k + 1, x0, x1, x5, x6 => if x6 < x1 then (if 0 ≤ x6 then (if x6 < (x0.length : Int) then (regletref01_made.l0 k x0 x1 (Go.bits .or .i64 x5 (shl .i64 (rd x0 x6) x6)) (wrap64 (x6 + 1))) else (none)) else (none)) else ((regletref01_cut.f x5 x1).bind fun t109 => (some t109))
def regletref01_made.f (k : Nat) (l0 : List Int) (a1 : Int) : Option (Int) := regletref01_made.l0 k l0 a1 0 0
theorem regletref01_made.mono_l : ∀ k, (∀ y0 y1 y2 y3, LeO (regletref01_made.l0 k y0 y1 y2 y3) (regletref01_made.l0 (k + 1) y0 y1 y2 y3))
  | 0 => fun _ _ _ _ r h => by simp [regletref01_made.l0] at h
  | k + 1 => by
    have ih0 := regletref01_made.mono_l k
    · intro y0 y1 y2 y3
      unfold regletref01_made.l0
      repeat' first
      | (with_reducible exact ih0 _ _ _ _)
      | (with_reducible exact LeO.refl _)
      | (with_reducible exact LeO.none _)
      | (with_reducible refine LeO.ite ?_ ?_)
      | (with_reducible refine LeO.bind ?_ (fun _ => ?_))
      | exact ih0 _ _ _ _
      | exact LeO.none _
      | refine LeO.ite ?_ ?_
      | refine LeO.bind ?_ (fun _ => ?_)
theorem regletref01_made.mono : ∀ a0 a1 k, LeO (regletref01_made.f k a0 a1) (regletref01_made.f (k + 1) a0 a1) := by
  intro a0 a1 k
  have ih0 := regletref01_made.mono_l k
  unfold regletref01_made.f
  repeat' first
      | (with_reducible exact ih0 _ _ _ _)
      | (with_reducible exact LeO.refl _)
      | (with_reducible exact LeO.none _)
      | (with_reducible refine LeO.ite ?_ ?_)
      | (with_reducible refine LeO.bind ?_ (fun _ => ?_))
      | exact ih0 _ _ _ _
      | exact LeO.none _
      | refine LeO.ite ?_ ?_
      | refine LeO.bind ?_ (fun _ => ?_)
set_option maxHeartbeats 8000000 in
set_option maxRecDepth 100000 in
theorem regletref01_made.calls (k : Nat) (A0 : Option Addr) (c0 : Nat) (l0 : List Int) (a1 : Int) (r : Int) (w : World) (hr0 : Kd.C (Kd.int .i64) w A0 l0.length l0) (hc0 : l0.length ≤ c0) (h : regletref01_made.f k l0 a1 = some r) :
    Calls Try.prog 36 #[.slice A0 l0.length c0, .int .i64 a1] w fun e w' => e = .returned (.int .i64 r) ∧ Drawn0 w w' := by
  have HR0 := Aside0.mk hr0
  have HC0 := Aside0.mk hc0
  clear hr0 hc0
  have H : (regletref01_made.l0 k l0 a1 0 0) = some r := h
  clear h
  have H' := Aside0.mk H
  clear H
  go_enter Try.func36, Try.ntmps36
  go_wp2
  go_loopg [5, 6] k (fun kq v5 v6 w' => ∃ (x5_1 : Int) (x6_1 : Int), v5 = .int .i64 x5_1 ∧ v6 = .int .i64 x6_1 ∧ Aside0 (regletref01_made.l0 kq l0 a1 x5_1 x6_1 = some r) ∧ Aside0 (kq ≤ k) ∧ Drawn0 w w')
  case atStart => exact ⟨(0), (0), (by first | rfl | (simp; done) | (simp [*]; done)), (by first | rfl | (simp; done) | (simp [*]; done)), H', ⟨Nat.le_refl _⟩, by repeat (first | exact Drawn0.refl _ | apply Drawn0.step)⟩
  case round =>
    clear H'
    try clear p2
    obtain ⟨x5_1, x6_1, rfl, rfl, HA, HK1, ⟨m1, rfl⟩⟩ := hrel
    cases gk with
    | zero => exact absurd HA.out (by simp [regletref01_made.l0])
    | succ k1 =>
      have H := HA.out
      clear HA
      simp only [regletref01_made.l0] at H
      by_cases c3 : x6_1 < a1
      · rw [if_pos c3] at H
        have c3b0 : decide (x6_1 < a1) = true := decide_eq_true c3
        clear c3
        by_cases c4 : 0 ≤ x6_1
        · rw [if_pos c4] at H
          have c4b0 : decide (0 ≤ x6_1) = true := decide_eq_true c4
          clear c4
          by_cases c5 : x6_1 < (l0.length : Int)
          · rw [if_pos c5] at H
            have c5b0 : decide (x6_1 < (l0.length : Int)) = true := decide_eq_true c5
            clear c5
            have c6b0 := eq_true (of_decide_eq_true (by first | (with_reducible assumption) | assumption) : 0 ≤ x6_1)
            obtain ⟨ji7, hji7⟩ : ∃ j_ : Int, (shl .i64 (rd l0 x6_1) x6_1) = j_ := ⟨_, rfl⟩
            replace H : (regletref01_made.l0 k1 l0 a1 (Go.bits .or .i64 x5_1 (ji7)) (wrap64 (x6_1 + 1))) = some r := by first | (rw [hji7] at H; exact H) | (simp only [hji7] at H ⊢; exact H)
            have hji7_ : (IntKind.i64.wrap ((rd l0 x6_1) * 2 ^ min x6_1.toNat 64)) = ji7 := hji7
            have hji7z : x6_1 ≤ 64 → (IntKind.i64.wrap ((rd l0 x6_1) * 2 ^ x6_1.toNat)) = ji7 := shl_small hji7
            have hji7y : (wrap64 ((rd l0 x6_1) * 2 ^ min x6_1.toNat 64)) = ji7 := (i64_w _).symm.trans hji7_
            have hji7x : x6_1 ≤ 64 → (wrap64 ((rd l0 x6_1) * 2 ^ x6_1.toNat)) = ji7 := fun h_ => (i64_w _).symm.trans (hji7z h_)
            have H' := Aside0.mk H
            clear H
            have p108 : 0 ≤ (x6_1 : Int) := of_decide_eq_true (by first | (with_reducible assumption) | assumption)
            have q108 : x6_1 < (l0.length : Int) := of_decide_eq_true (by first | (with_reducible assumption) | assumption)
            obtain ⟨ad108, e108, hx108_0⟩ := Kd.at_int HR0.out x6_1 p108 q108
            cases e108
            replace p108 := eq_true p108
            replace q108 := eq_true q108
            go_wp2
            go_roundg k1
            case measure => have := HK1.out; omega
            case rel => exact ⟨(Go.bits .or .i64 x5_1 (ji7)), (wrap64 (x6_1 + 1)), (by first | rfl | (simp; done) | (simp only [← hji7] <;> (first | rfl | simp)) | (simp [*]; done)), (by first | rfl | (simp; done) | (simp [*]; done)), H', ⟨by have := HK1.out; omega⟩, by repeat (first | exact Drawn0.refl _ | apply Drawn0.step)⟩
          · rw [if_neg c5] at H
            exact absurd H (by simp)
        · rw [if_neg c4] at H
          exact absurd H (by simp)
      · rw [if_neg c3] at H
        have c3b0 : decide (x6_1 < a1) = false := decide_eq_false c3
        clear c3
        replace H := Option.bind_eq_some_iff.mp H
        obtain ⟨t109, A80, H⟩ := H
        replace H : (some t109) = some r := H
        have A8 := Aside0.mk A80
        clear A80
        obtain rfl := Option.some.inj H
        go_wp2_with (first | ((with_reducible refine gate_callee (f := 33) rfl ?_); refine goesL_ (some 22) rfl rfl Try.func33 (by kernel_rfl) rfl #[.int .i64 x5_1, .int .i64 a1] rfl (by (try simp only [List.map_toArray, List.map_cons, List.map_nil]); first | done | rfl | (simp only [List.length_drop, List.length_take]; rfl)) ?_; (with_reducible refine (regletref01_cut.calls x5_1 a1 t109 _ A8.out).mono ?_); rintro e w' ⟨rfl, ⟨nd, rfl⟩⟩; refine ⟨_, rfl, ?_⟩))
        go_ret
        exact ⟨by first | rfl | (simp; done) | (simp [*]; done), by repeat (first | exact Drawn0.refl _ | apply Drawn0.step)⟩

/-! ### regletref01_sum: function 27 -/
def regletref01_sum.l0 : Nat → Int → Int → Int → Int → List Int → Int → Option (Int)
  | 0, _, _, _, _, _, _ => none
  | k + 1, x0, x1, x2, x3, x9, x10 => if x10 < x3 then ((regletref01_bit.f x0 x10).bind fun t110 => ((regletref01_bit.f x1 x10).bind fun t111 => (if x9.length < 17592186044416 then (regletref01_sum.l0 k x0 x1 (wrap64 (Int.tdiv (wrap64 ((wrap64 (t110 + t111)) + x2)) 2)) x3 (x9 ++ [Int.tmod (wrap64 ((wrap64 (t110 + t111)) + x2)) 2]) (wrap64 (x10 + 1))) else (none)))) else ((regletref01_made.f k x9 x3).bind fun t115 => (some t115))
def regletref01_sum.f (k : Nat) (a0 : Int) (a1 : Int) (a2 : Int) (a3 : Int) : Option (Int) := regletref01_sum.l0 k a0 a1 a2 a3 ([] : List Int) 0
theorem regletref01_sum.mono_l : ∀ k, (∀ y0 y1 y2 y3 y4 y5, LeO (regletref01_sum.l0 k y0 y1 y2 y3 y4 y5) (regletref01_sum.l0 (k + 1) y0 y1 y2 y3 y4 y5))
  | 0 => fun _ _ _ _ _ _ r h => by simp [regletref01_sum.l0] at h
  | k + 1 => by
    have ih0 := regletref01_sum.mono_l k
    · intro y0 y1 y2 y3 y4 y5
      unfold regletref01_sum.l0
      repeat' first
      | (with_reducible exact ih0 _ _ _ _ _ _)
      | (with_reducible exact regletref01_made.mono _ _ _)
      | (with_reducible exact LeO.refl _)
      | (with_reducible exact LeO.none _)
      | (with_reducible refine LeO.ite ?_ ?_)
      | (with_reducible refine LeO.bind ?_ (fun _ => ?_))
      | exact ih0 _ _ _ _ _ _
      | exact regletref01_made.mono _ _ _
      | exact LeO.none _
      | refine LeO.ite ?_ ?_
      | refine LeO.bind ?_ (fun _ => ?_)
theorem regletref01_sum.mono : ∀ a0 a1 a2 a3 k, LeO (regletref01_sum.f k a0 a1 a2 a3) (regletref01_sum.f (k + 1) a0 a1 a2 a3) := by
  intro a0 a1 a2 a3 k
  have ih0 := regletref01_sum.mono_l k
  unfold regletref01_sum.f
  repeat' first
      | (with_reducible exact ih0 _ _ _ _ _ _)
      | (with_reducible exact regletref01_made.mono _ _ _)
      | (with_reducible exact LeO.refl _)
      | (with_reducible exact LeO.none _)
      | (with_reducible refine LeO.ite ?_ ?_)
      | (with_reducible refine LeO.bind ?_ (fun _ => ?_))
      | exact ih0 _ _ _ _ _ _
      | exact regletref01_made.mono _ _ _
      | exact LeO.none _
      | refine LeO.ite ?_ ?_
      | refine LeO.bind ?_ (fun _ => ?_)
set_option maxHeartbeats 8000000 in
set_option maxRecDepth 100000 in
theorem regletref01_sum.calls (k : Nat) (a0 : Int) (a1 : Int) (a2 : Int) (a3 : Int) (r : Int) (w : World) (h : regletref01_sum.f k a0 a1 a2 a3 = some r) :
    Calls Try.prog 27 #[.int .i64 a0, .int .i64 a1, .int .i64 a2, .int .i64 a3] w fun e w' => e = .returned (.int .i64 r) ∧ Below w.heap.size w w' := by
  have HB := Aside0.mk (Below.refl w.heap.size w)
  have H : (regletref01_sum.l0 k a0 a1 a2 a3 ([] : List Int) 0) = some r := h
  clear h
  have H' := Aside0.mk H
  clear H
  go_enter Try.func27, Try.ntmps27
  go_wp2
  go_loopg [2, 9, 10] k (fun kq v2 v9 v10 w' => ∃ (x2_1 : Int) (x9_1 : List Int) (x10_1 : Int), v2 = .int .i64 x2_1 ∧ v10 = .int .i64 x10_1 ∧ Aside0 (regletref01_sum.l0 kq a0 a1 x2_1 a3 x9_1 x10_1 = some r) ∧ Aside0 (kq ≤ k) ∧ Aside0 (Kd.R (Kd.int .i64) 2 w' w.heap.size (fun _ => True) v9 x9_1) ∧ Aside0 (Below w.heap.size w w'))
  case atStart => exact ⟨(a2), (([] : List Int)), (0), (by first | rfl | (simp; done) | (simp [*]; done)), (by first | rfl | (simp; done) | (simp [*]; done)), H', ⟨Nat.le_refl _⟩, ⟨by first | exact Kd.R_nil _ _ _ _ _ | exact Kd.N_nil _ _ _ _ _ | exact Kd.V_nil _ _ _ _ _ | exact Kd.Q_nil _ _ _ _ _ | exact Kd.S_nil _ _ _ _ _⟩, ⟨by repeat (first | (with_reducible first | exact HB.out | apply below_alloc | apply pw_below_drewN | apply below_drew1) | exact HB.out)⟩⟩
  case round =>
    clear H'
    try clear c2
    try clear p2
    obtain ⟨x2_1, x9_1, x10_1, rfl, rfl, HA, HK1, HO_9, HB⟩ := hrel
    cases gk with
    | zero => exact absurd HA.out (by simp [regletref01_sum.l0])
    | succ k1 =>
      have H := HA.out
      clear HA
      simp only [regletref01_sum.l0] at H
      by_cases c5 : x10_1 < a3
      · rw [if_pos c5] at H
        have c5b0 : decide (x10_1 < a3) = true := decide_eq_true c5
        clear c5
        replace H := Option.bind_eq_some_iff.mp H
        obtain ⟨t110, A60, H⟩ := H
        replace H : ((regletref01_bit.f a1 x10_1).bind fun t111 => (if x9_1.length < 17592186044416 then (regletref01_sum.l0 k1 a0 a1 (wrap64 (Int.tdiv (wrap64 ((wrap64 (t110 + t111)) + x2_1)) 2)) a3 (x9_1 ++ [Int.tmod (wrap64 ((wrap64 (t110 + t111)) + x2_1)) 2]) (wrap64 (x10_1 + 1))) else (none))) = some r := H
        have A6 := Aside0.mk A60
        clear A60
        replace H := Option.bind_eq_some_iff.mp H
        obtain ⟨t111, A70, H⟩ := H
        replace H : (if x9_1.length < 17592186044416 then (regletref01_sum.l0 k1 a0 a1 (wrap64 (Int.tdiv (wrap64 ((wrap64 (t110 + t111)) + x2_1)) 2)) a3 (x9_1 ++ [Int.tmod (wrap64 ((wrap64 (t110 + t111)) + x2_1)) 2]) (wrap64 (x10_1 + 1))) else (none)) = some r := H
        have A7 := Aside0.mk A70
        clear A70
        by_cases c8 : x9_1.length < 17592186044416
        · rw [if_pos c8] at H
          have LMc8 := Aside0.mk c8
          clear c8
          obtain ⟨y112, hy112⟩ : ∃ y_ : List Int, y_ = (x9_1 ++ [Int.tmod (wrap64 ((wrap64 (t110 + t111)) + x2_1)) 2]) := ⟨_, rfl⟩
          replace H : (regletref01_sum.l0 k1 a0 a1 (wrap64 (Int.tdiv (wrap64 ((wrap64 (t110 + t111)) + x2_1)) 2)) a3 y112 (wrap64 (x10_1 + 1))) = some r := by first | (rw [hy112]; with_reducible exact H) | (have H2_ := (Option.bind_some _ _).symm.trans H; rw [hy112]; with_reducible exact H2_) | (have H2_ := (Option.bind_some _ _).symm.trans H; with_reducible exact H2_) | with_reducible exact H | (rw [hy112]; exact H) | exact H
          have Ny112 := Aside0.mk hy112
          clear hy112
          have H' := Aside0.mk H
          clear H
          go_wp2_with (first | ((with_reducible refine gate_callee (f := 35) rfl ?_); refine goesL_ (some 19) rfl rfl Try.func35 (by kernel_rfl) rfl #[.int .i64 a0, .int .i64 x10_1] rfl (by (try simp only [List.map_toArray, List.map_cons, List.map_nil]); first | done | rfl | (simp only [List.length_drop, List.length_take]; rfl)) ?_; (with_reducible refine (regletref01_bit.calls a0 x10_1 t110 _ A6.out).mono ?_); rintro e w' ⟨rfl, ⟨nd, rfl⟩⟩; refine ⟨_, rfl, ?_⟩) | ((with_reducible refine gate_callee (f := 35) rfl ?_); refine goesL_ (some 22) rfl rfl Try.func35 (by kernel_rfl) rfl #[.int .i64 a1, .int .i64 x10_1] rfl (by (try simp only [List.map_toArray, List.map_cons, List.map_nil]); first | done | rfl | (simp only [List.length_drop, List.length_take]; rfl)) ?_; (with_reducible refine (regletref01_bit.calls a1 x10_1 t111 _ A7.out).mono ?_); rintro e w' ⟨rfl, ⟨nd, rfl⟩⟩; refine ⟨_, rfl, ?_⟩) | ((with_reducible refine gate_builtin (b := .append) (xs := #[.tmp 26, .tmp 29]) rfl ?_); at_builtin; refine Kd.R_append (Kd.int .i64) (w0 := w) w.heap.size rfl (.tmp 26) (.tmp 29) 54 2 (.int .i64 0) 8 rfl Try.underlying54 info2 rfl (by decide) (by omega) u9 x9_1 (Int.tmod (wrap64 ((wrap64 (t110 + t111)) + x2_1)) 2) [.int .i64 (Int.tmod (wrap64 ((wrap64 (t110 + t111)) + x2_1)) 2)] (fun _ => True) (fun _ => False) rfl rfl ?aP (fun _ hk => hk.elim) ?aF ?aO ?aB ?aS ?aL ?_; (case aP => exact rfl); (case aB => exact (by repeat (first | (with_reducible first | exact HB.out | apply below_alloc | apply pw_below_drewN | apply below_drew1) | exact HB.out))); (case aF => exact (fun _ _ => trivial)); (case aO => exact (by (with_reducible repeat (first | apply Kd.R_alloc | apply Kd.R_drewN | apply Kd.R_drew)); exact HO_9.out)); (case aS => exact (below_size (by repeat (first | (with_reducible first | exact HB.out | apply below_alloc | apply pw_below_drewN | apply below_drew1) | exact HB.out)))); (case aL => have := LMc8.out; omega); intro v113 w9 ho hb hg hat; rw [← Ny112.out] at ho; have n0_ := Aside0.mk (hb); have n1_ := Aside0.mk (ho); clear HB; clear HO_9; have HB := n0_; have HO114 := n1_; clear n0_ n1_; clear ho hb hg hat))
          go_roundg k1
          case measure => have := HK1.out; omega
          case rel => exact ⟨(wrap64 (Int.tdiv (wrap64 ((wrap64 (t110 + t111)) + x2_1)) 2)), (y112), (wrap64 (x10_1 + 1)), (by first | rfl | (simp; done) | (simp [*]; done)), (by first | rfl | (simp; done) | (simp [*]; done)), H', ⟨by have := HK1.out; omega⟩, ⟨by (with_reducible repeat (first | apply Kd.R_alloc | apply Kd.R_drewN | apply Kd.R_drew)); exact HO114.out⟩, ⟨by repeat (first | (with_reducible first | exact HB.out | apply below_alloc | apply pw_below_drewN | apply below_drew1) | exact HB.out)⟩⟩
        · rw [if_neg c8] at H
          exact absurd H (by simp)
      · rw [if_neg c5] at H
        have c5b0 : decide (x10_1 < a3) = false := decide_eq_false c5
        clear c5
        replace H := Option.bind_eq_some_iff.mp H
        obtain ⟨t115, A100, H⟩ := H
        replace H : (some t115) = some r := H
        have A10 := Aside0.mk A100
        clear A100
        obtain rfl := Option.some.inj H
        obtain ⟨Ao11, co11, eo11⟩ := Kd.R_slice HO_9.out
        subst eo11
        go_wp2_with (first | ((with_reducible refine gate_callee (f := 36) rfl ?_); refine goesL_ (some 35) rfl rfl Try.func36 (by kernel_rfl) rfl #[.slice Ao11 x9_1.length co11, .int .i64 a3] rfl (by (try simp only [List.map_toArray, List.map_cons, List.map_nil]); first | done | rfl | (simp only [List.length_drop, List.length_take]; rfl)) ?_; (with_reducible refine (regletref01_made.calls k1 _ _ x9_1 a3 t115 _ ?side1 ?side2 A10.out).mono ?_); (case side1 => repeat (first | exact (Kd.R_reads' HO_9.out).2.2 | (with_reducible refine Kd.C_alloc ?_ _) | (with_reducible refine Kd.C_drewN ?_ _) | (with_reducible refine Kd.C_drew ?_))); (case side2 => exact (Kd.R_reads' HO_9.out).2.1); rintro e w' ⟨rfl, ⟨nd, rfl⟩⟩; refine ⟨_, rfl, ?_⟩))
        go_ret
        exact ⟨by first | rfl | (simp [errW_none, errW_some] <;> rfl) | (simp [*, errW_none, errW_some] <;> rfl), by repeat (first | (with_reducible first | exact HB.out | apply below_alloc | apply pw_below_drewN | apply below_drew1) | exact HB.out)⟩

end Go.Proofs.Ytmgeihpankhkcaa.PAll
