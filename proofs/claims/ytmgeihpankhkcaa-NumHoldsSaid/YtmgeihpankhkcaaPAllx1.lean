-- Printed by this session's own program wip/tools/pp.py (the kit's printer with hooks of the session's); not a text of print.sh.
import Derived.Test.YtmgeihpankhkcaaPAllx0
namespace Go.Proofs.Ytmgeihpankhkcaa.PAll
open Go.RowKit Go.Proofs.YtmgeihpankhkcaaW.PrintWords Go.Proofs.YtmgeihpankhkcaaW.PrintLast Go.Proofs.YtmgeihpankhkcaaW.PrintMore
attribute [local go_sem] max2_int min2_int max_two min_two max_three min_three max_four min_four   -- for this text's walks alone
set_option linter.unusedVariables false
set_option linter.unusedSimpArgs false

/-! ### num_divided: function 32 -/
def num_divided.f (a0 : Bool) (a1 : Int) (a2 : Int) : Option (Int) := if a2 = 0 then (some 0) else (if a2 = (-1) then (if a0 = true then (some 0) else (some (wrap64 (-a1)))) else (if a0 = true then (some (Int.tmod a1 a2)) else (some (wrap64 (Int.tdiv a1 a2)))))
set_option maxHeartbeats 8000000 in
set_option maxRecDepth 100000 in
theorem num_divided.calls (a0 : Bool) (a1 : Int) (a2 : Int) (r : Int) (w : World) (h : num_divided.f a0 a1 a2 = some r) :
    Calls Try.prog 32 #[.bool a0, .int .i64 a1, .int .i64 a2] w fun e w' => e = .returned (.int .i64 r) ∧ Drawn0 w w' := by
  have H : (if a2 = 0 then (some 0) else (if a2 = (-1) then (if a0 = true then (some 0) else (some (wrap64 (-a1)))) else (if a0 = true then (some (Int.tmod a1 a2)) else (some (wrap64 (Int.tdiv a1 a2)))))) = some r := h
  clear h
  by_cases c4 : a2 = 0
  · rw [if_pos c4] at H
    have c4b0 : (a2 == 0) = true := beq_iff_eq.mpr c4
    have c4b1 : (a2 != 0) = false := bne_eq_false_iff_eq.mpr c4
    clear c4
    obtain rfl := Option.some.inj H
    go_enter Try.func32, Try.ntmps32
    go_wp2
    go_ret
    exact ⟨by first | rfl | (simp; done) | (simp [*]; done), by repeat (first | exact Drawn0.refl _ | apply Drawn0.step)⟩
  · rw [if_neg c4] at H
    have c4b0 : (a2 == 0) = false := beq_eq_false_iff_ne.mpr c4
    have c4b1 : (a2 != 0) = true := bne_iff_ne.mpr c4
    by_cases c5 : a2 = (-1)
    · rw [if_pos c5] at H
      have c5b0 : (a2 == (-1)) = true := beq_iff_eq.mpr c5
      have c5b1 : (a2 != (-1)) = false := bne_eq_false_iff_eq.mpr c5
      clear c5
      by_cases c6 : a0 = true
      · subst c6
        have H1 : (some 0) = some r := by rw [if_pos rfl] at H; exact H
        clear H
        have H := H1
        clear H1
        obtain rfl := Option.some.inj H
        go_enter Try.func32, Try.ntmps32
        go_wp2
        go_ret
        exact ⟨by first | rfl | (simp; done) | (simp [*]; done), by repeat (first | exact Drawn0.refl _ | apply Drawn0.step)⟩
      · replace c6 := Bool.eq_false_iff.mpr c6
        subst c6
        have H1 : (some (wrap64 (-a1))) = some r := by rw [if_neg (show ¬ (false = true) by decide)] at H; exact H
        clear H
        have H := H1
        clear H1
        obtain rfl := Option.some.inj H
        go_enter Try.func32, Try.ntmps32
        go_wp2
        go_ret
        exact ⟨by first | rfl | (simp; done) | (simp [*]; done), by repeat (first | exact Drawn0.refl _ | apply Drawn0.step)⟩
    · rw [if_neg c5] at H
      have c5b0 : (a2 == (-1)) = false := beq_eq_false_iff_ne.mpr c5
      have c5b1 : (a2 != (-1)) = true := bne_iff_ne.mpr c5
      by_cases c7 : a0 = true
      · subst c7
        have H1 : (some (Int.tmod a1 a2)) = some r := by rw [if_pos rfl] at H; exact H
        clear H
        have H := H1
        clear H1
        obtain rfl := Option.some.inj H
        go_enter Try.func32, Try.ntmps32
        go_wp2
        go_ret
        exact ⟨by first | rfl | (simp; done) | (simp [*]; done), by repeat (first | exact Drawn0.refl _ | apply Drawn0.step)⟩
      · replace c7 := Bool.eq_false_iff.mpr c7
        subst c7
        have H1 : (some (wrap64 (Int.tdiv a1 a2))) = some r := by rw [if_neg (show ¬ (false = true) by decide)] at H; exact H
        clear H
        have H := H1
        clear H1
        obtain rfl := Option.some.inj H
        go_enter Try.func32, Try.ntmps32
        go_wp2
        go_ret
        exact ⟨by first | rfl | (simp; done) | (simp [*]; done), by repeat (first | exact Drawn0.refl _ | apply Drawn0.step)⟩

/-! ### num_Int: function 14 -/
def num_Int.j0 : Nat → Int → Int → Int → Int → Bool → Option (Int)
  | 0, _, _, _, _, _ => none
  | k + 1, x0, x1, x2, x7, x23 => if x23 = true then ((num_divided.f (x0 == 112) (wrap64 (x1)) (wrap64 (x2))).bind fun t101 => (some (wrap32 (t101)))) else (if x7 = 120 then (if 0 ≤ (Go.bits .and .u32 ((x2) % 4294967296) 31) then (some (shl .i32 x1 (Go.bits .and .u32 ((x2) % 4294967296) 31))) else (none)) else (if x7 = 122 then (if 0 ≤ (Go.bits .and .u32 ((x2) % 4294967296) 31) then (some (shr .i32 x1 (Go.bits .and .u32 ((x2) % 4294967296) 31))) else (none)) else (if x7 = 124 then (if 0 ≤ (Go.bits .and .u32 ((x2) % 4294967296) 31) then (some (wrap32 (shr .u32 ((x1) % 4294967296) (Go.bits .and .u32 ((x2) % 4294967296) 31)))) else (none)) else (if x7 = 126 then (some (Go.bits .and .i32 x1 x2)) else (if x7 = 128 then (some (Go.bits .or .i32 x1 x2)) else (if x7 = 130 then (some (Go.bits .xor .i32 x1 x2)) else (some 0)))))))
def num_Int.f (k : Nat) (a0 : Int) (a1 : Int) (a2 : Int) : Option (Int) := if a0 = 96 then (some (wrap32 (a1 + a2))) else (if a0 = 100 then (some (wrap32 (a1 - a2))) else (if a0 = 104 then (some (wrap32 (a1 * a2))) else (if a0 = 108 then (num_Int.j0 k a0 a1 a2 a0 (a0 == 108)) else (num_Int.j0 k a0 a1 a2 a0 (a0 == 112)))))
theorem num_Int.mono_l : ∀ k, (∀ y0 y1 y2 y3 y4, LeO (num_Int.j0 k y0 y1 y2 y3 y4) (num_Int.j0 (k + 1) y0 y1 y2 y3 y4))
  | 0 => fun _ _ _ _ _ r h => by simp [num_Int.j0] at h
  | k + 1 => by
    have ih0 := num_Int.mono_l k
    · intro y0 y1 y2 y3 y4
      unfold num_Int.j0
      repeat' first
      | (with_reducible exact ih0 _ _ _ _ _)
      | (with_reducible exact LeO.refl _)
      | (with_reducible exact LeO.none _)
      | (with_reducible refine LeO.ite ?_ ?_)
      | (with_reducible refine LeO.bind ?_ (fun _ => ?_))
      | exact ih0 _ _ _ _ _
      | exact LeO.none _
      | refine LeO.ite ?_ ?_
      | refine LeO.bind ?_ (fun _ => ?_)
theorem num_Int.mono : ∀ a0 a1 a2 k, LeO (num_Int.f k a0 a1 a2) (num_Int.f (k + 1) a0 a1 a2) := by
  intro a0 a1 a2 k
  have ih0 := num_Int.mono_l k
  unfold num_Int.f
  repeat' first
      | (with_reducible exact ih0 _ _ _ _ _)
      | (with_reducible exact LeO.refl _)
      | (with_reducible exact LeO.none _)
      | (with_reducible refine LeO.ite ?_ ?_)
      | (with_reducible refine LeO.bind ?_ (fun _ => ?_))
      | exact ih0 _ _ _ _ _
      | exact LeO.none _
      | refine LeO.ite ?_ ?_
      | refine LeO.bind ?_ (fun _ => ?_)
set_option maxHeartbeats 8000000 in
set_option maxRecDepth 100000 in
theorem num_Int.calls (k : Nat) (a0 : Int) (a1 : Int) (a2 : Int) (r : Int) (w : World) (h : num_Int.f k a0 a1 a2 = some r) :
    Calls Try.prog 14 #[.int .i64 a0, .int .i32 a1, .int .i32 a2] w fun e w' => e = .returned (.int .i32 r) ∧ Drawn0 w w' := by
  have H : (if a0 = 96 then (some (wrap32 (a1 + a2))) else (if a0 = 100 then (some (wrap32 (a1 - a2))) else (if a0 = 104 then (some (wrap32 (a1 * a2))) else (if a0 = 108 then (num_Int.j0 k a0 a1 a2 a0 (a0 == 108)) else (num_Int.j0 k a0 a1 a2 a0 (a0 == 112)))))) = some r := h
  clear h
  by_cases c4 : a0 = 96
  · rw [if_pos c4] at H
    have c4b0 : (a0 == 96) = true := beq_iff_eq.mpr c4
    have c4b1 : (a0 != 96) = false := bne_eq_false_iff_eq.mpr c4
    clear c4
    obtain rfl := Option.some.inj H
    go_enter Try.func14, Try.ntmps14
    go_wp2
    go_ret
    exact ⟨by first | rfl | (simp; done) | (simp [*]; done), by repeat (first | exact Drawn0.refl _ | apply Drawn0.step)⟩
  · rw [if_neg c4] at H
    have c4b0 : (a0 == 96) = false := beq_eq_false_iff_ne.mpr c4
    have c4b1 : (a0 != 96) = true := bne_iff_ne.mpr c4
    by_cases c5 : a0 = 100
    · rw [if_pos c5] at H
      have c5b0 : (a0 == 100) = true := beq_iff_eq.mpr c5
      have c5b1 : (a0 != 100) = false := bne_eq_false_iff_eq.mpr c5
      clear c5
      obtain rfl := Option.some.inj H
      go_enter Try.func14, Try.ntmps14
      go_wp2
      go_ret
      exact ⟨by first | rfl | (simp; done) | (simp [*]; done), by repeat (first | exact Drawn0.refl _ | apply Drawn0.step)⟩
    · rw [if_neg c5] at H
      have c5b0 : (a0 == 100) = false := beq_eq_false_iff_ne.mpr c5
      have c5b1 : (a0 != 100) = true := bne_iff_ne.mpr c5
      by_cases c6 : a0 = 104
      · rw [if_pos c6] at H
        have c6b0 : (a0 == 104) = true := beq_iff_eq.mpr c6
        have c6b1 : (a0 != 104) = false := bne_eq_false_iff_eq.mpr c6
        clear c6
        obtain rfl := Option.some.inj H
        go_enter Try.func14, Try.ntmps14
        go_wp2
        go_ret
        exact ⟨by first | rfl | (simp; done) | (simp [*]; done), by repeat (first | exact Drawn0.refl _ | apply Drawn0.step)⟩
      · rw [if_neg c6] at H
        have c6b0 : (a0 == 104) = false := beq_eq_false_iff_ne.mpr c6
        have c6b1 : (a0 != 104) = true := bne_iff_ne.mpr c6
        have HC7 := Aside0.mk H
        clear H
        go_enter Try.func14, Try.ntmps14
        go_upto_if 23 with (fail)
        go_cut [23] (fun v23 wc => ∃ (kq : Nat) (x23_6 : Bool), v23 = .bool x23_6 ∧ Aside0 (num_Int.j0 kq a0 a1 a2 a0 x23_6 = some r) ∧ Aside0 (kq ≤ k) ∧ Drawn0 w wc)
        case first =>
          have H := HC7.out
          clear HC7
          by_cases c8 : a0 = 108
          · rw [if_pos c8] at H
            have c8b0 : (a0 == 108) = true := beq_iff_eq.mpr c8
            have c8b1 : (a0 != 108) = false := bne_eq_false_iff_eq.mpr c8
            clear c8
            (first | rw [c8b0] | (simp only [i64_w, i32_w]; rw [c8b0]) | skip)
            have H' := Aside0.mk H
            clear H
            go_wp2
            go_meet
            case rel => exact ⟨_, ((a0 == 108)), (by first | rfl | (simp; done) | (simp [*]; done)), H', ⟨by first | omega | exact Nat.le_refl _⟩, by repeat (first | exact Drawn0.refl _ | apply Drawn0.step)⟩
          · rw [if_neg c8] at H
            have c8b0 : (a0 == 108) = false := beq_eq_false_iff_ne.mpr c8
            have c8b1 : (a0 != 108) = true := bne_iff_ne.mpr c8
            (first | rw [c8b0] | (simp only [i64_w, i32_w]; rw [c8b0]) | skip)
            have H' := Aside0.mk H
            clear H
            go_wp2
            go_meet
            case rel => exact ⟨_, ((a0 == 112)), (by first | rfl | (simp; done) | (simp [*]; done)), H', ⟨by first | omega | exact Nat.le_refl _⟩, by repeat (first | exact Drawn0.refl _ | apply Drawn0.step)⟩
        case rest =>
          clear HC7
          try clear c1
          try clear p2
          try clear p3
          try clear c4
          try clear c4b0
          try clear c4b1
          try clear c5
          try clear c5b0
          try clear c5b1
          try clear c6
          try clear c6b0
          try clear c6b1
          try clear c8
          try clear c8b0
          try clear c8b1
          obtain ⟨kq, x23_6, rfl, HA, HJ6, ⟨mc6, rfl⟩⟩ := hcut
          cases kq with
          | zero => exact absurd HA.out (by simp [num_Int.j0])
          | succ kj6 =>
            have H := HA.out
            clear HA
            simp only [num_Int.j0] at H
            by_cases c9 : x23_6 = true
            · subst c9
              have H1 : ((num_divided.f (a0 == 112) (wrap64 (a1)) (wrap64 (a2))).bind fun t101 => (some (wrap32 (t101)))) = some r := by rw [if_pos rfl] at H; exact H
              clear H
              have H := H1
              clear H1
              replace H := Option.bind_eq_some_iff.mp H
              obtain ⟨t101, A100, H⟩ := H
              replace H : (some (wrap32 (t101))) = some r := H
              have A10 := Aside0.mk A100
              clear A100
              obtain rfl := Option.some.inj H
              go_wp2_with (first | ((with_reducible refine gate_callee (f := 32) rfl ?_); refine goesL_ (some 32) rfl rfl Try.func32 (by kernel_rfl) rfl #[.bool (a0 == 112), .int .i64 (wrap64 (a1)), .int .i64 (wrap64 (a2))] rfl (by (try simp only [List.map_toArray, List.map_cons, List.map_nil]); first | done | rfl | (simp only [List.length_drop, List.length_take]; rfl)) ?_; (with_reducible refine (num_divided.calls (a0 == 112) (wrap64 (a1)) (wrap64 (a2)) t101 _ A10.out).mono ?_); rintro e w' ⟨rfl, ⟨nd, rfl⟩⟩; refine ⟨_, rfl, ?_⟩))
              go_ret
              exact ⟨by first | rfl | (simp; done) | (simp [*]; done), by repeat (first | exact Drawn0.refl _ | apply Drawn0.step)⟩
            · replace c9 := Bool.eq_false_iff.mpr c9
              subst c9
              have H1 : (if a0 = 120 then (if 0 ≤ (Go.bits .and .u32 ((a2) % 4294967296) 31) then (some (shl .i32 a1 (Go.bits .and .u32 ((a2) % 4294967296) 31))) else (none)) else (if a0 = 122 then (if 0 ≤ (Go.bits .and .u32 ((a2) % 4294967296) 31) then (some (shr .i32 a1 (Go.bits .and .u32 ((a2) % 4294967296) 31))) else (none)) else (if a0 = 124 then (if 0 ≤ (Go.bits .and .u32 ((a2) % 4294967296) 31) then (some (wrap32 (shr .u32 ((a1) % 4294967296) (Go.bits .and .u32 ((a2) % 4294967296) 31)))) else (none)) else (if a0 = 126 then (some (Go.bits .and .i32 a1 a2)) else (if a0 = 128 then (some (Go.bits .or .i32 a1 a2)) else (if a0 = 130 then (some (Go.bits .xor .i32 a1 a2)) else (some 0))))))) = some r := by rw [if_neg (show ¬ (false = true) by decide)] at H; exact H
              clear H
              have H := H1
              clear H1
              by_cases c11 : a0 = 120
              · rw [if_pos c11] at H
                have c11b0 : (a0 == 120) = true := beq_iff_eq.mpr c11
                have c11b1 : (a0 != 120) = false := bne_eq_false_iff_eq.mpr c11
                clear c11
                obtain ⟨ji12, hji12⟩ : ∃ j_ : Int, (Go.bits .and .u32 ((a2) % 4294967296) 31) = j_ := ⟨_, rfl⟩
                replace H : (if 0 ≤ (ji12) then (some (shl .i32 a1 (ji12))) else (none)) = some r := by first | (rw [hji12] at H; exact H) | (simp only [hji12] at H ⊢; exact H)
                by_cases c13 : 0 ≤ (ji12)
                · rw [if_pos c13] at H
                  have c13b0 := eq_true c13
                  have c13b1 : decide (0 ≤ (ji12)) = true := decide_eq_true c13
                  clear c13
                  obtain ⟨ji14, hji14⟩ : ∃ j_ : Int, (shl .i32 a1 (ji12)) = j_ := ⟨_, rfl⟩
                  replace H : (some ji14) = some r := by first | (rw [hji14] at H; exact H) | (simp only [hji14] at H ⊢; exact H)
                  have hji14_ : (IntKind.i32.wrap (a1 * 2 ^ min (ji12).toNat 32)) = ji14 := hji14
                  have hji14z : (ji12) ≤ 32 → (IntKind.i32.wrap (a1 * 2 ^ (ji12).toNat)) = ji14 := shl_small hji14
                  have hji14y : (wrap32 (a1 * 2 ^ min (ji12).toNat 32)) = ji14 := (i32_w _).symm.trans hji14_
                  have hji14x : (ji12) ≤ 32 → (wrap32 (a1 * 2 ^ (ji12).toNat)) = ji14 := fun h_ => (i32_w _).symm.trans (hji14z h_)
                  obtain rfl := Option.some.inj H
                  go_wp2
                  go_ret
                  exact ⟨by first | rfl | (simp; done) | (simp only [← hji12, ← hji14] <;> (first | rfl | simp)) | (simp [*]; done), by repeat (first | exact Drawn0.refl _ | apply Drawn0.step)⟩
                · rw [if_neg c13] at H
                  exact absurd H (by simp)
              · rw [if_neg c11] at H
                have c11b0 : (a0 == 120) = false := beq_eq_false_iff_ne.mpr c11
                have c11b1 : (a0 != 120) = true := bne_iff_ne.mpr c11
                by_cases c15 : a0 = 122
                · rw [if_pos c15] at H
                  have c15b0 : (a0 == 122) = true := beq_iff_eq.mpr c15
                  have c15b1 : (a0 != 122) = false := bne_eq_false_iff_eq.mpr c15
                  clear c15
                  obtain ⟨ji16, hji16⟩ : ∃ j_ : Int, (Go.bits .and .u32 ((a2) % 4294967296) 31) = j_ := ⟨_, rfl⟩
                  replace H : (if 0 ≤ (ji16) then (some (shr .i32 a1 (ji16))) else (none)) = some r := by first | (rw [hji16] at H; exact H) | (simp only [hji16] at H ⊢; exact H)
                  by_cases c17 : 0 ≤ (ji16)
                  · rw [if_pos c17] at H
                    have c17b0 := eq_true c17
                    have c17b1 : decide (0 ≤ (ji16)) = true := decide_eq_true c17
                    clear c17
                    obtain ⟨ji18, hji18⟩ : ∃ j_ : Int, (shr .i32 a1 (ji16)) = j_ := ⟨_, rfl⟩
                    replace H : (some ji18) = some r := by first | (rw [hji18] at H; exact H) | (simp only [hji18] at H ⊢; exact H)
                    have hji18_ : (a1 / 2 ^ min (ji16).toNat 32) = ji18 := hji18
                    have hji18z : (ji16) ≤ 32 → (a1 / 2 ^ (ji16).toNat) = ji18 := shr_small hji18
                    obtain rfl := Option.some.inj H
                    go_wp2
                    go_ret
                    exact ⟨by first | rfl | (simp; done) | (simp only [← hji16, ← hji18] <;> (first | rfl | simp)) | (simp [*]; done), by repeat (first | exact Drawn0.refl _ | apply Drawn0.step)⟩
                  · rw [if_neg c17] at H
                    exact absurd H (by simp)
                · rw [if_neg c15] at H
                  have c15b0 : (a0 == 122) = false := beq_eq_false_iff_ne.mpr c15
                  have c15b1 : (a0 != 122) = true := bne_iff_ne.mpr c15
                  by_cases c19 : a0 = 124
                  · rw [if_pos c19] at H
                    have c19b0 : (a0 == 124) = true := beq_iff_eq.mpr c19
                    have c19b1 : (a0 != 124) = false := bne_eq_false_iff_eq.mpr c19
                    clear c19
                    obtain ⟨ji20, hji20⟩ : ∃ j_ : Int, (Go.bits .and .u32 ((a2) % 4294967296) 31) = j_ := ⟨_, rfl⟩
                    replace H : (if 0 ≤ (ji20) then (some (wrap32 (shr .u32 ((a1) % 4294967296) (ji20)))) else (none)) = some r := by first | (rw [hji20] at H; exact H) | (simp only [hji20] at H ⊢; exact H)
                    by_cases c21 : 0 ≤ (ji20)
                    · rw [if_pos c21] at H
                      have c21b0 := eq_true c21
                      have c21b1 : decide (0 ≤ (ji20)) = true := decide_eq_true c21
                      clear c21
                      obtain ⟨ji22, hji22⟩ : ∃ j_ : Int, (shr .u32 ((a1) % 4294967296) (ji20)) = j_ := ⟨_, rfl⟩
                      replace H : (some (wrap32 (ji22))) = some r := by first | (rw [hji22] at H; exact H) | (simp only [hji22] at H ⊢; exact H)
                      have hji22_ : (((a1) % 4294967296) / 2 ^ min (ji20).toNat 32) = ji22 := hji22
                      have hji22z : (ji20) ≤ 32 → (((a1) % 4294967296) / 2 ^ (ji20).toNat) = ji22 := shr_small hji22
                      obtain rfl := Option.some.inj H
                      go_wp2
                      go_ret
                      exact ⟨by first | rfl | (simp; done) | (simp only [← hji20, ← hji22] <;> (first | rfl | simp)) | (simp [*]; done), by repeat (first | exact Drawn0.refl _ | apply Drawn0.step)⟩
                    · rw [if_neg c21] at H
                      exact absurd H (by simp)
                  · rw [if_neg c19] at H
                    have c19b0 : (a0 == 124) = false := beq_eq_false_iff_ne.mpr c19
                    have c19b1 : (a0 != 124) = true := bne_iff_ne.mpr c19
                    by_cases c23 : a0 = 126
                    · rw [if_pos c23] at H
                      have c23b0 : (a0 == 126) = true := beq_iff_eq.mpr c23
                      have c23b1 : (a0 != 126) = false := bne_eq_false_iff_eq.mpr c23
                      clear c23
                      obtain rfl := Option.some.inj H
                      go_wp2
                      go_ret
                      exact ⟨by first | rfl | (simp; done) | (simp [*]; done), by repeat (first | exact Drawn0.refl _ | apply Drawn0.step)⟩
                    · rw [if_neg c23] at H
                      have c23b0 : (a0 == 126) = false := beq_eq_false_iff_ne.mpr c23
                      have c23b1 : (a0 != 126) = true := bne_iff_ne.mpr c23
                      by_cases c24 : a0 = 128
                      · rw [if_pos c24] at H
                        have c24b0 : (a0 == 128) = true := beq_iff_eq.mpr c24
                        have c24b1 : (a0 != 128) = false := bne_eq_false_iff_eq.mpr c24
                        clear c24
                        obtain rfl := Option.some.inj H
                        go_wp2
                        go_ret
                        exact ⟨by first | rfl | (simp; done) | (simp [*]; done), by repeat (first | exact Drawn0.refl _ | apply Drawn0.step)⟩
                      · rw [if_neg c24] at H
                        have c24b0 : (a0 == 128) = false := beq_eq_false_iff_ne.mpr c24
                        have c24b1 : (a0 != 128) = true := bne_iff_ne.mpr c24
                        by_cases c25 : a0 = 130
                        · rw [if_pos c25] at H
                          have c25b0 : (a0 == 130) = true := beq_iff_eq.mpr c25
                          have c25b1 : (a0 != 130) = false := bne_eq_false_iff_eq.mpr c25
                          clear c25
                          obtain rfl := Option.some.inj H
                          go_wp2
                          go_ret
                          exact ⟨by first | rfl | (simp; done) | (simp [*]; done), by repeat (first | exact Drawn0.refl _ | apply Drawn0.step)⟩
                        · rw [if_neg c25] at H
                          have c25b0 : (a0 == 130) = false := beq_eq_false_iff_ne.mpr c25
                          have c25b1 : (a0 != 130) = true := bne_iff_ne.mpr c25
                          obtain rfl := Option.some.inj H
                          go_wp2
                          go_ret
                          exact ⟨by first | rfl | (simp; done) | (simp [*]; done), by repeat (first | exact Drawn0.refl _ | apply Drawn0.step)⟩

/-! ### num_Long: function 15 -/
def num_Long.j0 : Nat → Int → Int → Int → Int → Bool → Option (Int)
  | 0, _, _, _, _, _ => none
  | k + 1, x0, x1, x2, x7, x23 => if x23 = true then ((num_divided.f (x0 == 113) x1 x2).bind fun t102 => (some t102)) else (if x7 = 121 then (if 0 ≤ (Go.bits .and .u64 (IntKind.u64.wrap (x2)) 63) then (some (shl .i64 x1 (Go.bits .and .u64 (IntKind.u64.wrap (x2)) 63))) else (none)) else (if x7 = 123 then (if 0 ≤ (Go.bits .and .u64 (IntKind.u64.wrap (x2)) 63) then (some (shr .i64 x1 (Go.bits .and .u64 (IntKind.u64.wrap (x2)) 63))) else (none)) else (if x7 = 125 then (if 0 ≤ (Go.bits .and .u64 (IntKind.u64.wrap (x2)) 63) then (some (wrap64 (shr .u64 (IntKind.u64.wrap (x1)) (Go.bits .and .u64 (IntKind.u64.wrap (x2)) 63)))) else (none)) else (if x7 = 127 then (some (Go.bits .and .i64 x1 x2)) else (if x7 = 129 then (some (Go.bits .or .i64 x1 x2)) else (if x7 = 131 then (some (Go.bits .xor .i64 x1 x2)) else (some 0)))))))
def num_Long.f (k : Nat) (a0 : Int) (a1 : Int) (a2 : Int) : Option (Int) := if a0 = 97 then (some (wrap64 (a1 + a2))) else (if a0 = 101 then (some (wrap64 (a1 - a2))) else (if a0 = 105 then (some (wrap64 (a1 * a2))) else (if a0 = 109 then (num_Long.j0 k a0 a1 a2 a0 (a0 == 109)) else (num_Long.j0 k a0 a1 a2 a0 (a0 == 113)))))
theorem num_Long.mono_l : ∀ k, (∀ y0 y1 y2 y3 y4, LeO (num_Long.j0 k y0 y1 y2 y3 y4) (num_Long.j0 (k + 1) y0 y1 y2 y3 y4))
  | 0 => fun _ _ _ _ _ r h => by simp [num_Long.j0] at h
  | k + 1 => by
    have ih0 := num_Long.mono_l k
    · intro y0 y1 y2 y3 y4
      unfold num_Long.j0
      repeat' first
      | (with_reducible exact ih0 _ _ _ _ _)
      | (with_reducible exact LeO.refl _)
      | (with_reducible exact LeO.none _)
      | (with_reducible refine LeO.ite ?_ ?_)
      | (with_reducible refine LeO.bind ?_ (fun _ => ?_))
      | exact ih0 _ _ _ _ _
      | exact LeO.none _
      | refine LeO.ite ?_ ?_
      | refine LeO.bind ?_ (fun _ => ?_)
theorem num_Long.mono : ∀ a0 a1 a2 k, LeO (num_Long.f k a0 a1 a2) (num_Long.f (k + 1) a0 a1 a2) := by
  intro a0 a1 a2 k
  have ih0 := num_Long.mono_l k
  unfold num_Long.f
  repeat' first
      | (with_reducible exact ih0 _ _ _ _ _)
      | (with_reducible exact LeO.refl _)
      | (with_reducible exact LeO.none _)
      | (with_reducible refine LeO.ite ?_ ?_)
      | (with_reducible refine LeO.bind ?_ (fun _ => ?_))
      | exact ih0 _ _ _ _ _
      | exact LeO.none _
      | refine LeO.ite ?_ ?_
      | refine LeO.bind ?_ (fun _ => ?_)
set_option maxHeartbeats 8000000 in
set_option maxRecDepth 100000 in
theorem num_Long.calls (k : Nat) (a0 : Int) (a1 : Int) (a2 : Int) (r : Int) (w : World) (h : num_Long.f k a0 a1 a2 = some r) :
    Calls Try.prog 15 #[.int .i64 a0, .int .i64 a1, .int .i64 a2] w fun e w' => e = .returned (.int .i64 r) ∧ Drawn0 w w' := by
  have H : (if a0 = 97 then (some (wrap64 (a1 + a2))) else (if a0 = 101 then (some (wrap64 (a1 - a2))) else (if a0 = 105 then (some (wrap64 (a1 * a2))) else (if a0 = 109 then (num_Long.j0 k a0 a1 a2 a0 (a0 == 109)) else (num_Long.j0 k a0 a1 a2 a0 (a0 == 113)))))) = some r := h
  clear h
  by_cases c4 : a0 = 97
  · rw [if_pos c4] at H
    have c4b0 : (a0 == 97) = true := beq_iff_eq.mpr c4
    have c4b1 : (a0 != 97) = false := bne_eq_false_iff_eq.mpr c4
    clear c4
    obtain rfl := Option.some.inj H
    go_enter Try.func15, Try.ntmps15
    go_wp2
    go_ret
    exact ⟨by first | rfl | (simp; done) | (simp [*]; done), by repeat (first | exact Drawn0.refl _ | apply Drawn0.step)⟩
  · rw [if_neg c4] at H
    have c4b0 : (a0 == 97) = false := beq_eq_false_iff_ne.mpr c4
    have c4b1 : (a0 != 97) = true := bne_iff_ne.mpr c4
    by_cases c5 : a0 = 101
    · rw [if_pos c5] at H
      have c5b0 : (a0 == 101) = true := beq_iff_eq.mpr c5
      have c5b1 : (a0 != 101) = false := bne_eq_false_iff_eq.mpr c5
      clear c5
      obtain rfl := Option.some.inj H
      go_enter Try.func15, Try.ntmps15
      go_wp2
      go_ret
      exact ⟨by first | rfl | (simp; done) | (simp [*]; done), by repeat (first | exact Drawn0.refl _ | apply Drawn0.step)⟩
    · rw [if_neg c5] at H
      have c5b0 : (a0 == 101) = false := beq_eq_false_iff_ne.mpr c5
      have c5b1 : (a0 != 101) = true := bne_iff_ne.mpr c5
      by_cases c6 : a0 = 105
      · rw [if_pos c6] at H
        have c6b0 : (a0 == 105) = true := beq_iff_eq.mpr c6
        have c6b1 : (a0 != 105) = false := bne_eq_false_iff_eq.mpr c6
        clear c6
        obtain rfl := Option.some.inj H
        go_enter Try.func15, Try.ntmps15
        go_wp2
        go_ret
        exact ⟨by first | rfl | (simp; done) | (simp [*]; done), by repeat (first | exact Drawn0.refl _ | apply Drawn0.step)⟩
      · rw [if_neg c6] at H
        have c6b0 : (a0 == 105) = false := beq_eq_false_iff_ne.mpr c6
        have c6b1 : (a0 != 105) = true := bne_iff_ne.mpr c6
        have HC7 := Aside0.mk H
        clear H
        go_enter Try.func15, Try.ntmps15
        go_upto_if 23 with (fail)
        go_cut [23] (fun v23 wc => ∃ (kq : Nat) (x23_6 : Bool), v23 = .bool x23_6 ∧ Aside0 (num_Long.j0 kq a0 a1 a2 a0 x23_6 = some r) ∧ Aside0 (kq ≤ k) ∧ Drawn0 w wc)
        case first =>
          have H := HC7.out
          clear HC7
          by_cases c8 : a0 = 109
          · rw [if_pos c8] at H
            have c8b0 : (a0 == 109) = true := beq_iff_eq.mpr c8
            have c8b1 : (a0 != 109) = false := bne_eq_false_iff_eq.mpr c8
            clear c8
            (first | rw [c8b0] | (simp only [i64_w, i32_w]; rw [c8b0]) | skip)
            have H' := Aside0.mk H
            clear H
            go_wp2
            go_meet
            case rel => exact ⟨_, ((a0 == 109)), (by first | rfl | (simp; done) | (simp [*]; done)), H', ⟨by first | omega | exact Nat.le_refl _⟩, by repeat (first | exact Drawn0.refl _ | apply Drawn0.step)⟩
          · rw [if_neg c8] at H
            have c8b0 : (a0 == 109) = false := beq_eq_false_iff_ne.mpr c8
            have c8b1 : (a0 != 109) = true := bne_iff_ne.mpr c8
            (first | rw [c8b0] | (simp only [i64_w, i32_w]; rw [c8b0]) | skip)
            have H' := Aside0.mk H
            clear H
            go_wp2
            go_meet
            case rel => exact ⟨_, ((a0 == 113)), (by first | rfl | (simp; done) | (simp [*]; done)), H', ⟨by first | omega | exact Nat.le_refl _⟩, by repeat (first | exact Drawn0.refl _ | apply Drawn0.step)⟩
        case rest =>
          clear HC7
          try clear c1
          try clear p2
          try clear c4
          try clear c4b0
          try clear c4b1
          try clear c5
          try clear c5b0
          try clear c5b1
          try clear c6
          try clear c6b0
          try clear c6b1
          try clear p6
          try clear c8
          try clear c8b0
          try clear c8b1
          obtain ⟨kq, x23_6, rfl, HA, HJ6, ⟨mc6, rfl⟩⟩ := hcut
          cases kq with
          | zero => exact absurd HA.out (by simp [num_Long.j0])
          | succ kj6 =>
            have H := HA.out
            clear HA
            simp only [num_Long.j0] at H
            by_cases c9 : x23_6 = true
            · subst c9
              have H1 : ((num_divided.f (a0 == 113) a1 a2).bind fun t102 => (some t102)) = some r := by rw [if_pos rfl] at H; exact H
              clear H
              have H := H1
              clear H1
              replace H := Option.bind_eq_some_iff.mp H
              obtain ⟨t102, A100, H⟩ := H
              replace H : (some t102) = some r := H
              have A10 := Aside0.mk A100
              clear A100
              obtain rfl := Option.some.inj H
              go_wp2_with (first | ((with_reducible refine gate_callee (f := 32) rfl ?_); refine goesL_ (some 30) rfl rfl Try.func32 (by kernel_rfl) rfl #[.bool (a0 == 113), .int .i64 a1, .int .i64 a2] rfl (by (try simp only [List.map_toArray, List.map_cons, List.map_nil]); first | done | rfl | (simp only [List.length_drop, List.length_take]; rfl)) ?_; (with_reducible refine (num_divided.calls (a0 == 113) a1 a2 t102 _ A10.out).mono ?_); rintro e w' ⟨rfl, ⟨nd, rfl⟩⟩; refine ⟨_, rfl, ?_⟩))
              go_ret
              exact ⟨by first | rfl | (simp; done) | (simp [*]; done), by repeat (first | exact Drawn0.refl _ | apply Drawn0.step)⟩
            · replace c9 := Bool.eq_false_iff.mpr c9
              subst c9
              have H1 : (if a0 = 121 then (if 0 ≤ (Go.bits .and .u64 (IntKind.u64.wrap (a2)) 63) then (some (shl .i64 a1 (Go.bits .and .u64 (IntKind.u64.wrap (a2)) 63))) else (none)) else (if a0 = 123 then (if 0 ≤ (Go.bits .and .u64 (IntKind.u64.wrap (a2)) 63) then (some (shr .i64 a1 (Go.bits .and .u64 (IntKind.u64.wrap (a2)) 63))) else (none)) else (if a0 = 125 then (if 0 ≤ (Go.bits .and .u64 (IntKind.u64.wrap (a2)) 63) then (some (wrap64 (shr .u64 (IntKind.u64.wrap (a1)) (Go.bits .and .u64 (IntKind.u64.wrap (a2)) 63)))) else (none)) else (if a0 = 127 then (some (Go.bits .and .i64 a1 a2)) else (if a0 = 129 then (some (Go.bits .or .i64 a1 a2)) else (if a0 = 131 then (some (Go.bits .xor .i64 a1 a2)) else (some 0))))))) = some r := by rw [if_neg (show ¬ (false = true) by decide)] at H; exact H
              clear H
              have H := H1
              clear H1
              by_cases c11 : a0 = 121
              · rw [if_pos c11] at H
                have c11b0 : (a0 == 121) = true := beq_iff_eq.mpr c11
                have c11b1 : (a0 != 121) = false := bne_eq_false_iff_eq.mpr c11
                clear c11
                obtain ⟨ji12, hji12⟩ : ∃ j_ : Int, (Go.bits .and .u64 (IntKind.u64.wrap (a2)) 63) = j_ := ⟨_, rfl⟩
                replace H : (if 0 ≤ (ji12) then (some (shl .i64 a1 (ji12))) else (none)) = some r := by first | (rw [hji12] at H; exact H) | (simp only [hji12] at H ⊢; exact H)
                by_cases c13 : 0 ≤ (ji12)
                · rw [if_pos c13] at H
                  have c13b0 := eq_true c13
                  have c13b1 : decide (0 ≤ (ji12)) = true := decide_eq_true c13
                  clear c13
                  obtain ⟨ji14, hji14⟩ : ∃ j_ : Int, (shl .i64 a1 (ji12)) = j_ := ⟨_, rfl⟩
                  replace H : (some ji14) = some r := by first | (rw [hji14] at H; exact H) | (simp only [hji14] at H ⊢; exact H)
                  have hji14_ : (IntKind.i64.wrap (a1 * 2 ^ min (ji12).toNat 64)) = ji14 := hji14
                  have hji14z : (ji12) ≤ 64 → (IntKind.i64.wrap (a1 * 2 ^ (ji12).toNat)) = ji14 := shl_small hji14
                  have hji14y : (wrap64 (a1 * 2 ^ min (ji12).toNat 64)) = ji14 := (i64_w _).symm.trans hji14_
                  have hji14x : (ji12) ≤ 64 → (wrap64 (a1 * 2 ^ (ji12).toNat)) = ji14 := fun h_ => (i64_w _).symm.trans (hji14z h_)
                  obtain rfl := Option.some.inj H
                  go_wp2
                  go_ret
                  exact ⟨by first | rfl | (simp; done) | (simp only [← hji12, ← hji14] <;> (first | rfl | simp)) | (simp [*]; done), by repeat (first | exact Drawn0.refl _ | apply Drawn0.step)⟩
                · rw [if_neg c13] at H
                  exact absurd H (by simp)
              · rw [if_neg c11] at H
                have c11b0 : (a0 == 121) = false := beq_eq_false_iff_ne.mpr c11
                have c11b1 : (a0 != 121) = true := bne_iff_ne.mpr c11
                by_cases c15 : a0 = 123
                · rw [if_pos c15] at H
                  have c15b0 : (a0 == 123) = true := beq_iff_eq.mpr c15
                  have c15b1 : (a0 != 123) = false := bne_eq_false_iff_eq.mpr c15
                  clear c15
                  obtain ⟨ji16, hji16⟩ : ∃ j_ : Int, (Go.bits .and .u64 (IntKind.u64.wrap (a2)) 63) = j_ := ⟨_, rfl⟩
                  replace H : (if 0 ≤ (ji16) then (some (shr .i64 a1 (ji16))) else (none)) = some r := by first | (rw [hji16] at H; exact H) | (simp only [hji16] at H ⊢; exact H)
                  by_cases c17 : 0 ≤ (ji16)
                  · rw [if_pos c17] at H
                    have c17b0 := eq_true c17
                    have c17b1 : decide (0 ≤ (ji16)) = true := decide_eq_true c17
                    clear c17
                    obtain ⟨ji18, hji18⟩ : ∃ j_ : Int, (shr .i64 a1 (ji16)) = j_ := ⟨_, rfl⟩
                    replace H : (some ji18) = some r := by first | (rw [hji18] at H; exact H) | (simp only [hji18] at H ⊢; exact H)
                    have hji18_ : (a1 / 2 ^ min (ji16).toNat 64) = ji18 := hji18
                    have hji18z : (ji16) ≤ 64 → (a1 / 2 ^ (ji16).toNat) = ji18 := shr_small hji18
                    obtain rfl := Option.some.inj H
                    go_wp2
                    go_ret
                    exact ⟨by first | rfl | (simp; done) | (simp only [← hji16, ← hji18] <;> (first | rfl | simp)) | (simp [*]; done), by repeat (first | exact Drawn0.refl _ | apply Drawn0.step)⟩
                  · rw [if_neg c17] at H
                    exact absurd H (by simp)
                · rw [if_neg c15] at H
                  have c15b0 : (a0 == 123) = false := beq_eq_false_iff_ne.mpr c15
                  have c15b1 : (a0 != 123) = true := bne_iff_ne.mpr c15
                  by_cases c19 : a0 = 125
                  · rw [if_pos c19] at H
                    have c19b0 : (a0 == 125) = true := beq_iff_eq.mpr c19
                    have c19b1 : (a0 != 125) = false := bne_eq_false_iff_eq.mpr c19
                    clear c19
                    obtain ⟨ji20, hji20⟩ : ∃ j_ : Int, (Go.bits .and .u64 (IntKind.u64.wrap (a2)) 63) = j_ := ⟨_, rfl⟩
                    replace H : (if 0 ≤ (ji20) then (some (wrap64 (shr .u64 (IntKind.u64.wrap (a1)) (ji20)))) else (none)) = some r := by first | (rw [hji20] at H; exact H) | (simp only [hji20] at H ⊢; exact H)
                    by_cases c21 : 0 ≤ (ji20)
                    · rw [if_pos c21] at H
                      have c21b0 := eq_true c21
                      have c21b1 : decide (0 ≤ (ji20)) = true := decide_eq_true c21
                      clear c21
                      obtain ⟨ji22, hji22⟩ : ∃ j_ : Int, (shr .u64 (IntKind.u64.wrap (a1)) (ji20)) = j_ := ⟨_, rfl⟩
                      replace H : (some (wrap64 (ji22))) = some r := by first | (rw [hji22] at H; exact H) | (simp only [hji22] at H ⊢; exact H)
                      have hji22_ : ((IntKind.u64.wrap (a1)) / 2 ^ min (ji20).toNat 64) = ji22 := hji22
                      have hji22z : (ji20) ≤ 64 → ((IntKind.u64.wrap (a1)) / 2 ^ (ji20).toNat) = ji22 := shr_small hji22
                      obtain rfl := Option.some.inj H
                      go_wp2
                      go_ret
                      exact ⟨by first | rfl | (simp; done) | (simp only [← hji20, ← hji22] <;> (first | rfl | simp)) | (simp [*]; done), by repeat (first | exact Drawn0.refl _ | apply Drawn0.step)⟩
                    · rw [if_neg c21] at H
                      exact absurd H (by simp)
                  · rw [if_neg c19] at H
                    have c19b0 : (a0 == 125) = false := beq_eq_false_iff_ne.mpr c19
                    have c19b1 : (a0 != 125) = true := bne_iff_ne.mpr c19
                    by_cases c23 : a0 = 127
                    · rw [if_pos c23] at H
                      have c23b0 : (a0 == 127) = true := beq_iff_eq.mpr c23
                      have c23b1 : (a0 != 127) = false := bne_eq_false_iff_eq.mpr c23
                      clear c23
                      obtain rfl := Option.some.inj H
                      go_wp2
                      go_ret
                      exact ⟨by first | rfl | (simp; done) | (simp [*]; done), by repeat (first | exact Drawn0.refl _ | apply Drawn0.step)⟩
                    · rw [if_neg c23] at H
                      have c23b0 : (a0 == 127) = false := beq_eq_false_iff_ne.mpr c23
                      have c23b1 : (a0 != 127) = true := bne_iff_ne.mpr c23
                      by_cases c24 : a0 = 129
                      · rw [if_pos c24] at H
                        have c24b0 : (a0 == 129) = true := beq_iff_eq.mpr c24
                        have c24b1 : (a0 != 129) = false := bne_eq_false_iff_eq.mpr c24
                        clear c24
                        obtain rfl := Option.some.inj H
                        go_wp2
                        go_ret
                        exact ⟨by first | rfl | (simp; done) | (simp [*]; done), by repeat (first | exact Drawn0.refl _ | apply Drawn0.step)⟩
                      · rw [if_neg c24] at H
                        have c24b0 : (a0 == 129) = false := beq_eq_false_iff_ne.mpr c24
                        have c24b1 : (a0 != 129) = true := bne_iff_ne.mpr c24
                        by_cases c25 : a0 = 131
                        · rw [if_pos c25] at H
                          have c25b0 : (a0 == 131) = true := beq_iff_eq.mpr c25
                          have c25b1 : (a0 != 131) = false := bne_eq_false_iff_eq.mpr c25
                          clear c25
                          obtain rfl := Option.some.inj H
                          go_wp2
                          go_ret
                          exact ⟨by first | rfl | (simp; done) | (simp [*]; done), by repeat (first | exact Drawn0.refl _ | apply Drawn0.step)⟩
                        · rw [if_neg c25] at H
                          have c25b0 : (a0 == 131) = false := beq_eq_false_iff_ne.mpr c25
                          have c25b1 : (a0 != 131) = true := bne_iff_ne.mpr c25
                          obtain rfl := Option.some.inj H
                          go_wp2
                          go_ret
                          exact ⟨by first | rfl | (simp; done) | (simp [*]; done), by repeat (first | exact Drawn0.refl _ | apply Drawn0.step)⟩

end Go.Proofs.Ytmgeihpankhkcaa.PAll
