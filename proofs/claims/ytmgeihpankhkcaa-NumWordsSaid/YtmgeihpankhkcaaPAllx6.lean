-- Printed by this session's own program wip/tools/pp.py (the kit's printer with hooks of the session's); not a text of print.sh.
import Derived.Test.YtmgeihpankhkcaaPAllx0
namespace Go.Proofs.Ytmgeihpankhkcaa.PAll
open Go.RowKit Go.Proofs.YtmgeihpankhkcaaW.PrintWords Go.Proofs.YtmgeihpankhkcaaW.PrintLast Go.Proofs.YtmgeihpankhkcaaW.PrintMore
attribute [local go_sem] max2_int min2_int max_two min_two max_three min_three max_four min_four   -- for this text's walks alone
set_option linter.unusedVariables false
set_option linter.unusedSimpArgs false

/-! ### num_Kinds: function 22 -/
mutual
def num_Kinds.j0 : Nat → Int → Bool → Option (Int × Int × Int)
  | 0, _, _ => none
  | k + 1, x5, x6 => if x6 = true then (some (1, 1, 1)) else (if x5 = 97 then (num_Kinds.j1 k x5 (x5 == 97)) else (if x5 = 101 then (num_Kinds.j1 k x5 (x5 == 101)) else (if x5 = 105 then (num_Kinds.j1 k x5 (x5 == 105)) else (if x5 = 109 then (num_Kinds.j1 k x5 (x5 == 109)) else (if x5 = 113 then (num_Kinds.j1 k x5 (x5 == 113)) else (if x5 = 127 then (num_Kinds.j1 k x5 (x5 == 127)) else (if x5 = 129 then (num_Kinds.j1 k x5 (x5 == 129)) else (num_Kinds.j1 k x5 (x5 == 131)))))))))
def num_Kinds.j1 : Nat → Int → Bool → Option (Int × Int × Int)
  | 0, _, _ => none
  | k + 1, x5, x18 => if x18 = true then (some (2, 2, 2)) else (if x5 = 121 then (num_Kinds.j2 k x5 (x5 == 121)) else (if x5 = 123 then (num_Kinds.j2 k x5 (x5 == 123)) else (num_Kinds.j2 k x5 (x5 == 125))))
def num_Kinds.j2 : Nat → Int → Bool → Option (Int × Int × Int)
  | 0, _, _ => none
  | k + 1, x5, x27 => if x27 = true then (some (2, 1, 2)) else (if x5 = 148 then (some (2, 2, 1)) else (if x5 = 116 then (num_Kinds.j3 k x5 (x5 == 116)) else (if x5 = 145 then (num_Kinds.j3 k x5 (x5 == 145)) else (if x5 = 146 then (num_Kinds.j3 k x5 (x5 == 146)) else (num_Kinds.j3 k x5 (x5 == 147))))))
def num_Kinds.j3 : Nat → Int → Bool → Option (Int × Int × Int)
  | 0, _, _ => none
  | k + 1, x5, x33 => if x33 = true then (some (1, 0, 1)) else (if x5 = 117 then (some (2, 0, 2)) else (if x5 = 133 then (some (1, 0, 2)) else (if x5 = 136 then (some (2, 0, 1)) else (some (0, 0, 0)))))
end
def num_Kinds.f (k : Nat) (a0 : Int) : Option (Int × Int × Int) := if a0 = 96 then (num_Kinds.j0 k a0 (a0 == 96)) else (if a0 = 100 then (num_Kinds.j0 k a0 (a0 == 100)) else (if a0 = 104 then (num_Kinds.j0 k a0 (a0 == 104)) else (if a0 = 108 then (num_Kinds.j0 k a0 (a0 == 108)) else (if a0 = 112 then (num_Kinds.j0 k a0 (a0 == 112)) else (if a0 = 120 then (num_Kinds.j0 k a0 (a0 == 120)) else (if a0 = 122 then (num_Kinds.j0 k a0 (a0 == 122)) else (if a0 = 124 then (num_Kinds.j0 k a0 (a0 == 124)) else (if a0 = 126 then (num_Kinds.j0 k a0 (a0 == 126)) else (if a0 = 128 then (num_Kinds.j0 k a0 (a0 == 128)) else (num_Kinds.j0 k a0 (a0 == 130)))))))))))
theorem num_Kinds.mono_l : ∀ k, (∀ y0 y1, LeO (num_Kinds.j0 k y0 y1) (num_Kinds.j0 (k + 1) y0 y1)) ∧ (∀ y0 y1, LeO (num_Kinds.j1 k y0 y1) (num_Kinds.j1 (k + 1) y0 y1)) ∧ (∀ y0 y1, LeO (num_Kinds.j2 k y0 y1) (num_Kinds.j2 (k + 1) y0 y1)) ∧ (∀ y0 y1, LeO (num_Kinds.j3 k y0 y1) (num_Kinds.j3 (k + 1) y0 y1))
  | 0 => ⟨fun _ _ r h => by simp [num_Kinds.j0] at h, fun _ _ r h => by simp [num_Kinds.j1] at h, fun _ _ r h => by simp [num_Kinds.j2] at h, fun _ _ r h => by simp [num_Kinds.j3] at h⟩
  | k + 1 => by
    obtain ⟨ih0, ih1, ih2, ih3⟩ := num_Kinds.mono_l k
    refine ⟨?_, ?_, ?_, ?_⟩
    · intro y0 y1
      unfold num_Kinds.j0
      repeat' first
      | (with_reducible exact ih0 _ _)
      | (with_reducible exact ih1 _ _)
      | (with_reducible exact ih2 _ _)
      | (with_reducible exact ih3 _ _)
      | (with_reducible exact LeO.refl _)
      | (with_reducible exact LeO.none _)
      | (with_reducible refine LeO.ite ?_ ?_)
      | (with_reducible refine LeO.bind ?_ (fun _ => ?_))
      | exact ih0 _ _
      | exact ih1 _ _
      | exact ih2 _ _
      | exact ih3 _ _
      | exact LeO.none _
      | refine LeO.ite ?_ ?_
      | refine LeO.bind ?_ (fun _ => ?_)
    · intro y0 y1
      unfold num_Kinds.j1
      repeat' first
      | (with_reducible exact ih0 _ _)
      | (with_reducible exact ih1 _ _)
      | (with_reducible exact ih2 _ _)
      | (with_reducible exact ih3 _ _)
      | (with_reducible exact LeO.refl _)
      | (with_reducible exact LeO.none _)
      | (with_reducible refine LeO.ite ?_ ?_)
      | (with_reducible refine LeO.bind ?_ (fun _ => ?_))
      | exact ih0 _ _
      | exact ih1 _ _
      | exact ih2 _ _
      | exact ih3 _ _
      | exact LeO.none _
      | refine LeO.ite ?_ ?_
      | refine LeO.bind ?_ (fun _ => ?_)
    · intro y0 y1
      unfold num_Kinds.j2
      repeat' first
      | (with_reducible exact ih0 _ _)
      | (with_reducible exact ih1 _ _)
      | (with_reducible exact ih2 _ _)
      | (with_reducible exact ih3 _ _)
      | (with_reducible exact LeO.refl _)
      | (with_reducible exact LeO.none _)
      | (with_reducible refine LeO.ite ?_ ?_)
      | (with_reducible refine LeO.bind ?_ (fun _ => ?_))
      | exact ih0 _ _
      | exact ih1 _ _
      | exact ih2 _ _
      | exact ih3 _ _
      | exact LeO.none _
      | refine LeO.ite ?_ ?_
      | refine LeO.bind ?_ (fun _ => ?_)
    · intro y0 y1
      unfold num_Kinds.j3
      repeat' first
      | (with_reducible exact ih0 _ _)
      | (with_reducible exact ih1 _ _)
      | (with_reducible exact ih2 _ _)
      | (with_reducible exact ih3 _ _)
      | (with_reducible exact LeO.refl _)
      | (with_reducible exact LeO.none _)
      | (with_reducible refine LeO.ite ?_ ?_)
      | (with_reducible refine LeO.bind ?_ (fun _ => ?_))
      | exact ih0 _ _
      | exact ih1 _ _
      | exact ih2 _ _
      | exact ih3 _ _
      | exact LeO.none _
      | refine LeO.ite ?_ ?_
      | refine LeO.bind ?_ (fun _ => ?_)
theorem num_Kinds.mono : ∀ a0 k, LeO (num_Kinds.f k a0) (num_Kinds.f (k + 1) a0) := by
  intro a0 k
  obtain ⟨ih0, ih1, ih2, ih3⟩ := num_Kinds.mono_l k
  unfold num_Kinds.f
  repeat' first
      | (with_reducible exact ih0 _ _)
      | (with_reducible exact ih1 _ _)
      | (with_reducible exact ih2 _ _)
      | (with_reducible exact ih3 _ _)
      | (with_reducible exact LeO.refl _)
      | (with_reducible exact LeO.none _)
      | (with_reducible refine LeO.ite ?_ ?_)
      | (with_reducible refine LeO.bind ?_ (fun _ => ?_))
      | exact ih0 _ _
      | exact ih1 _ _
      | exact ih2 _ _
      | exact ih3 _ _
      | exact LeO.none _
      | refine LeO.ite ?_ ?_
      | refine LeO.bind ?_ (fun _ => ?_)
set_option maxHeartbeats 8000000 in
set_option maxRecDepth 100000 in
theorem num_Kinds.calls (k : Nat) (a0 : Int) (r1 : Int) (r2 : Int) (r3 : Int) (w : World) (h : num_Kinds.f k a0 = some (r1, r2, r3)) :
    Calls Try.prog 22 #[.int .i64 a0] w fun e w' => e = .returned (.tuple #[.int .i64 r1, .int .i64 r2, .int .i64 r3]) ∧ Drawn0 w w' := by
  have H : (if a0 = 96 then (num_Kinds.j0 k a0 (a0 == 96)) else (if a0 = 100 then (num_Kinds.j0 k a0 (a0 == 100)) else (if a0 = 104 then (num_Kinds.j0 k a0 (a0 == 104)) else (if a0 = 108 then (num_Kinds.j0 k a0 (a0 == 108)) else (if a0 = 112 then (num_Kinds.j0 k a0 (a0 == 112)) else (if a0 = 120 then (num_Kinds.j0 k a0 (a0 == 120)) else (if a0 = 122 then (num_Kinds.j0 k a0 (a0 == 122)) else (if a0 = 124 then (num_Kinds.j0 k a0 (a0 == 124)) else (if a0 = 126 then (num_Kinds.j0 k a0 (a0 == 126)) else (if a0 = 128 then (num_Kinds.j0 k a0 (a0 == 128)) else (num_Kinds.j0 k a0 (a0 == 130)))))))))))) = some (r1, r2, r3) := h
  clear h
  have HC2 := Aside0.mk H
  clear H
  go_enter Try.func22, Try.ntmps22
  go_upto_if 6 with (fail)
  go_cut [6] (fun v6 wc => ∃ (kq : Nat) (x6_1 : Bool), v6 = .bool x6_1 ∧ Aside0 (num_Kinds.j0 kq a0 x6_1 = some (r1, r2, r3)) ∧ Aside0 (kq ≤ k) ∧ Drawn0 w wc)
  case first =>
    have H := HC2.out
    clear HC2
    by_cases c3 : a0 = 96
    · rw [if_pos c3] at H
      have c3b0 : (a0 == 96) = true := beq_iff_eq.mpr c3
      have c3b1 : (a0 != 96) = false := bne_eq_false_iff_eq.mpr c3
      clear c3
      (first | rw [c3b0] | (simp only [i64_w, i32_w]; rw [c3b0]) | skip)
      have H' := Aside0.mk H
      clear H
      go_wp2
      go_meet
      case rel => exact ⟨_, ((a0 == 96)), (by first | rfl | (simp; done) | (simp [*]; done)), H', ⟨by first | omega | exact Nat.le_refl _⟩, by repeat (first | exact Drawn0.refl _ | apply Drawn0.step)⟩
    · rw [if_neg c3] at H
      have c3b0 : (a0 == 96) = false := beq_eq_false_iff_ne.mpr c3
      have c3b1 : (a0 != 96) = true := bne_iff_ne.mpr c3
      (first | rw [c3b0] | (simp only [i64_w, i32_w]; rw [c3b0]) | skip)
      by_cases c4 : a0 = 100
      · rw [if_pos c4] at H
        have c4b0 : (a0 == 100) = true := beq_iff_eq.mpr c4
        have c4b1 : (a0 != 100) = false := bne_eq_false_iff_eq.mpr c4
        clear c4
        have H' := Aside0.mk H
        clear H
        go_wp2
        go_meet
        case rel => exact ⟨_, ((a0 == 100)), (by first | rfl | (simp; done) | (simp [*]; done)), H', ⟨by first | omega | exact Nat.le_refl _⟩, by repeat (first | exact Drawn0.refl _ | apply Drawn0.step)⟩
      · rw [if_neg c4] at H
        have c4b0 : (a0 == 100) = false := beq_eq_false_iff_ne.mpr c4
        have c4b1 : (a0 != 100) = true := bne_iff_ne.mpr c4
        by_cases c5 : a0 = 104
        · rw [if_pos c5] at H
          have c5b0 : (a0 == 104) = true := beq_iff_eq.mpr c5
          have c5b1 : (a0 != 104) = false := bne_eq_false_iff_eq.mpr c5
          clear c5
          have H' := Aside0.mk H
          clear H
          go_wp2
          go_meet
          case rel => exact ⟨_, ((a0 == 104)), (by first | rfl | (simp; done) | (simp [*]; done)), H', ⟨by first | omega | exact Nat.le_refl _⟩, by repeat (first | exact Drawn0.refl _ | apply Drawn0.step)⟩
        · rw [if_neg c5] at H
          have c5b0 : (a0 == 104) = false := beq_eq_false_iff_ne.mpr c5
          have c5b1 : (a0 != 104) = true := bne_iff_ne.mpr c5
          by_cases c6 : a0 = 108
          · rw [if_pos c6] at H
            have c6b0 : (a0 == 108) = true := beq_iff_eq.mpr c6
            have c6b1 : (a0 != 108) = false := bne_eq_false_iff_eq.mpr c6
            clear c6
            have H' := Aside0.mk H
            clear H
            go_wp2
            go_meet
            case rel => exact ⟨_, ((a0 == 108)), (by first | rfl | (simp; done) | (simp [*]; done)), H', ⟨by first | omega | exact Nat.le_refl _⟩, by repeat (first | exact Drawn0.refl _ | apply Drawn0.step)⟩
          · rw [if_neg c6] at H
            have c6b0 : (a0 == 108) = false := beq_eq_false_iff_ne.mpr c6
            have c6b1 : (a0 != 108) = true := bne_iff_ne.mpr c6
            by_cases c7 : a0 = 112
            · rw [if_pos c7] at H
              have c7b0 : (a0 == 112) = true := beq_iff_eq.mpr c7
              have c7b1 : (a0 != 112) = false := bne_eq_false_iff_eq.mpr c7
              clear c7
              have H' := Aside0.mk H
              clear H
              go_wp2
              go_meet
              case rel => exact ⟨_, ((a0 == 112)), (by first | rfl | (simp; done) | (simp [*]; done)), H', ⟨by first | omega | exact Nat.le_refl _⟩, by repeat (first | exact Drawn0.refl _ | apply Drawn0.step)⟩
            · rw [if_neg c7] at H
              have c7b0 : (a0 == 112) = false := beq_eq_false_iff_ne.mpr c7
              have c7b1 : (a0 != 112) = true := bne_iff_ne.mpr c7
              by_cases c8 : a0 = 120
              · rw [if_pos c8] at H
                have c8b0 : (a0 == 120) = true := beq_iff_eq.mpr c8
                have c8b1 : (a0 != 120) = false := bne_eq_false_iff_eq.mpr c8
                clear c8
                have H' := Aside0.mk H
                clear H
                go_wp2
                go_meet
                case rel => exact ⟨_, ((a0 == 120)), (by first | rfl | (simp; done) | (simp [*]; done)), H', ⟨by first | omega | exact Nat.le_refl _⟩, by repeat (first | exact Drawn0.refl _ | apply Drawn0.step)⟩
              · rw [if_neg c8] at H
                have c8b0 : (a0 == 120) = false := beq_eq_false_iff_ne.mpr c8
                have c8b1 : (a0 != 120) = true := bne_iff_ne.mpr c8
                by_cases c9 : a0 = 122
                · rw [if_pos c9] at H
                  have c9b0 : (a0 == 122) = true := beq_iff_eq.mpr c9
                  have c9b1 : (a0 != 122) = false := bne_eq_false_iff_eq.mpr c9
                  clear c9
                  have H' := Aside0.mk H
                  clear H
                  go_wp2
                  go_meet
                  case rel => exact ⟨_, ((a0 == 122)), (by first | rfl | (simp; done) | (simp [*]; done)), H', ⟨by first | omega | exact Nat.le_refl _⟩, by repeat (first | exact Drawn0.refl _ | apply Drawn0.step)⟩
                · rw [if_neg c9] at H
                  have c9b0 : (a0 == 122) = false := beq_eq_false_iff_ne.mpr c9
                  have c9b1 : (a0 != 122) = true := bne_iff_ne.mpr c9
                  by_cases c10 : a0 = 124
                  · rw [if_pos c10] at H
                    have c10b0 : (a0 == 124) = true := beq_iff_eq.mpr c10
                    have c10b1 : (a0 != 124) = false := bne_eq_false_iff_eq.mpr c10
                    clear c10
                    have H' := Aside0.mk H
                    clear H
                    go_wp2
                    go_meet
                    case rel => exact ⟨_, ((a0 == 124)), (by first | rfl | (simp; done) | (simp [*]; done)), H', ⟨by first | omega | exact Nat.le_refl _⟩, by repeat (first | exact Drawn0.refl _ | apply Drawn0.step)⟩
                  · rw [if_neg c10] at H
                    have c10b0 : (a0 == 124) = false := beq_eq_false_iff_ne.mpr c10
                    have c10b1 : (a0 != 124) = true := bne_iff_ne.mpr c10
                    by_cases c11 : a0 = 126
                    · rw [if_pos c11] at H
                      have c11b0 : (a0 == 126) = true := beq_iff_eq.mpr c11
                      have c11b1 : (a0 != 126) = false := bne_eq_false_iff_eq.mpr c11
                      clear c11
                      have H' := Aside0.mk H
                      clear H
                      go_wp2
                      go_meet
                      case rel => exact ⟨_, ((a0 == 126)), (by first | rfl | (simp; done) | (simp [*]; done)), H', ⟨by first | omega | exact Nat.le_refl _⟩, by repeat (first | exact Drawn0.refl _ | apply Drawn0.step)⟩
                    · rw [if_neg c11] at H
                      have c11b0 : (a0 == 126) = false := beq_eq_false_iff_ne.mpr c11
                      have c11b1 : (a0 != 126) = true := bne_iff_ne.mpr c11
                      by_cases c12 : a0 = 128
                      · rw [if_pos c12] at H
                        have c12b0 : (a0 == 128) = true := beq_iff_eq.mpr c12
                        have c12b1 : (a0 != 128) = false := bne_eq_false_iff_eq.mpr c12
                        clear c12
                        have H' := Aside0.mk H
                        clear H
                        go_wp2
                        go_meet
                        case rel => exact ⟨_, ((a0 == 128)), (by first | rfl | (simp; done) | (simp [*]; done)), H', ⟨by first | omega | exact Nat.le_refl _⟩, by repeat (first | exact Drawn0.refl _ | apply Drawn0.step)⟩
                      · rw [if_neg c12] at H
                        have c12b0 : (a0 == 128) = false := beq_eq_false_iff_ne.mpr c12
                        have c12b1 : (a0 != 128) = true := bne_iff_ne.mpr c12
                        have H' := Aside0.mk H
                        clear H
                        go_wp2
                        go_meet
                        case rel => exact ⟨_, ((a0 == 130)), (by first | rfl | (simp; done) | (simp [*]; done)), H', ⟨by first | omega | exact Nat.le_refl _⟩, by repeat (first | exact Drawn0.refl _ | apply Drawn0.step)⟩
  case rest =>
    clear HC2
    try clear c1
    try clear c2
    try clear p2
    try clear c3
    try clear c3b0
    try clear c3b1
    try clear c4
    try clear c4b0
    try clear c4b1
    try clear c5
    try clear c5b0
    try clear c5b1
    try clear c6
    try clear c6b0
    try clear c6b1
    try clear c7
    try clear c7b0
    try clear c7b1
    try clear c8
    try clear c8b0
    try clear c8b1
    try clear c9
    try clear c9b0
    try clear c9b1
    try clear c10
    try clear c10b0
    try clear c10b1
    try clear c11
    try clear c11b0
    try clear c11b1
    try clear c12
    try clear c12b0
    try clear c12b1
    obtain ⟨kq, x6_1, rfl, HA, HJ1, ⟨mc1, rfl⟩⟩ := hcut
    cases kq with
    | zero => exact absurd HA.out (by simp [num_Kinds.j0])
    | succ kj1 =>
      have H := HA.out
      clear HA
      simp only [num_Kinds.j0] at H
      by_cases c13 : x6_1 = true
      · subst c13
        have H1 : (some (1, 1, 1)) = some (r1, r2, r3) := by rw [if_pos rfl] at H; exact H
        clear H
        have H := H1
        clear H1
        simp only [Option.some.injEq, Prod.mk.injEq] at H
        obtain ⟨rfl, rfl, rfl⟩ := H
        go_wp2
        go_ret3
        exact ⟨by first | rfl | (simp; done) | (simp [*]; done), by repeat (first | exact Drawn0.refl _ | apply Drawn0.step)⟩
      · replace c13 := Bool.eq_false_iff.mpr c13
        subst c13
        have H1 : (if a0 = 97 then (num_Kinds.j1 kj1 a0 (a0 == 97)) else (if a0 = 101 then (num_Kinds.j1 kj1 a0 (a0 == 101)) else (if a0 = 105 then (num_Kinds.j1 kj1 a0 (a0 == 105)) else (if a0 = 109 then (num_Kinds.j1 kj1 a0 (a0 == 109)) else (if a0 = 113 then (num_Kinds.j1 kj1 a0 (a0 == 113)) else (if a0 = 127 then (num_Kinds.j1 kj1 a0 (a0 == 127)) else (if a0 = 129 then (num_Kinds.j1 kj1 a0 (a0 == 129)) else (num_Kinds.j1 kj1 a0 (a0 == 131))))))))) = some (r1, r2, r3) := by rw [if_neg (show ¬ (false = true) by decide)] at H; exact H
        clear H
        have H := H1
        clear H1
        have HC14 := Aside0.mk H
        clear H
        go_upto_if 18 with (fail)
        go_cut [18] (fun v18 wc => ∃ (kq : Nat) (x18_13 : Bool), v18 = .bool x18_13 ∧ Aside0 (num_Kinds.j1 kq a0 x18_13 = some (r1, r2, r3)) ∧ Aside0 (kq ≤ kj1) ∧ Drawn0 w wc)
        case first =>
          have H := HC14.out
          clear HC14
          by_cases c15 : a0 = 97
          · rw [if_pos c15] at H
            have c15b0 : (a0 == 97) = true := beq_iff_eq.mpr c15
            have c15b1 : (a0 != 97) = false := bne_eq_false_iff_eq.mpr c15
            clear c15
            (first | rw [c15b0] | (simp only [i64_w, i32_w]; rw [c15b0]) | skip)
            have H' := Aside0.mk H
            clear H
            go_wp2
            go_meet
            case rel => exact ⟨_, ((a0 == 97)), (by first | rfl | (simp; done) | (simp [*]; done)), H', ⟨by have := HJ1.out; first | omega | exact Nat.le_refl _⟩, by repeat (first | exact Drawn0.refl _ | apply Drawn0.step)⟩
          · rw [if_neg c15] at H
            have c15b0 : (a0 == 97) = false := beq_eq_false_iff_ne.mpr c15
            have c15b1 : (a0 != 97) = true := bne_iff_ne.mpr c15
            (first | rw [c15b0] | (simp only [i64_w, i32_w]; rw [c15b0]) | skip)
            by_cases c16 : a0 = 101
            · rw [if_pos c16] at H
              have c16b0 : (a0 == 101) = true := beq_iff_eq.mpr c16
              have c16b1 : (a0 != 101) = false := bne_eq_false_iff_eq.mpr c16
              clear c16
              have H' := Aside0.mk H
              clear H
              go_wp2
              go_meet
              case rel => exact ⟨_, ((a0 == 101)), (by first | rfl | (simp; done) | (simp [*]; done)), H', ⟨by have := HJ1.out; first | omega | exact Nat.le_refl _⟩, by repeat (first | exact Drawn0.refl _ | apply Drawn0.step)⟩
            · rw [if_neg c16] at H
              have c16b0 : (a0 == 101) = false := beq_eq_false_iff_ne.mpr c16
              have c16b1 : (a0 != 101) = true := bne_iff_ne.mpr c16
              by_cases c17 : a0 = 105
              · rw [if_pos c17] at H
                have c17b0 : (a0 == 105) = true := beq_iff_eq.mpr c17
                have c17b1 : (a0 != 105) = false := bne_eq_false_iff_eq.mpr c17
                clear c17
                have H' := Aside0.mk H
                clear H
                go_wp2
                go_meet
                case rel => exact ⟨_, ((a0 == 105)), (by first | rfl | (simp; done) | (simp [*]; done)), H', ⟨by have := HJ1.out; first | omega | exact Nat.le_refl _⟩, by repeat (first | exact Drawn0.refl _ | apply Drawn0.step)⟩
              · rw [if_neg c17] at H
                have c17b0 : (a0 == 105) = false := beq_eq_false_iff_ne.mpr c17
                have c17b1 : (a0 != 105) = true := bne_iff_ne.mpr c17
                by_cases c18 : a0 = 109
                · rw [if_pos c18] at H
                  have c18b0 : (a0 == 109) = true := beq_iff_eq.mpr c18
                  have c18b1 : (a0 != 109) = false := bne_eq_false_iff_eq.mpr c18
                  clear c18
                  have H' := Aside0.mk H
                  clear H
                  go_wp2
                  go_meet
                  case rel => exact ⟨_, ((a0 == 109)), (by first | rfl | (simp; done) | (simp [*]; done)), H', ⟨by have := HJ1.out; first | omega | exact Nat.le_refl _⟩, by repeat (first | exact Drawn0.refl _ | apply Drawn0.step)⟩
                · rw [if_neg c18] at H
                  have c18b0 : (a0 == 109) = false := beq_eq_false_iff_ne.mpr c18
                  have c18b1 : (a0 != 109) = true := bne_iff_ne.mpr c18
                  by_cases c19 : a0 = 113
                  · rw [if_pos c19] at H
                    have c19b0 : (a0 == 113) = true := beq_iff_eq.mpr c19
                    have c19b1 : (a0 != 113) = false := bne_eq_false_iff_eq.mpr c19
                    clear c19
                    have H' := Aside0.mk H
                    clear H
                    go_wp2
                    go_meet
                    case rel => exact ⟨_, ((a0 == 113)), (by first | rfl | (simp; done) | (simp [*]; done)), H', ⟨by have := HJ1.out; first | omega | exact Nat.le_refl _⟩, by repeat (first | exact Drawn0.refl _ | apply Drawn0.step)⟩
                  · rw [if_neg c19] at H
                    have c19b0 : (a0 == 113) = false := beq_eq_false_iff_ne.mpr c19
                    have c19b1 : (a0 != 113) = true := bne_iff_ne.mpr c19
                    by_cases c20 : a0 = 127
                    · rw [if_pos c20] at H
                      have c20b0 : (a0 == 127) = true := beq_iff_eq.mpr c20
                      have c20b1 : (a0 != 127) = false := bne_eq_false_iff_eq.mpr c20
                      clear c20
                      have H' := Aside0.mk H
                      clear H
                      go_wp2
                      go_meet
                      case rel => exact ⟨_, ((a0 == 127)), (by first | rfl | (simp; done) | (simp [*]; done)), H', ⟨by have := HJ1.out; first | omega | exact Nat.le_refl _⟩, by repeat (first | exact Drawn0.refl _ | apply Drawn0.step)⟩
                    · rw [if_neg c20] at H
                      have c20b0 : (a0 == 127) = false := beq_eq_false_iff_ne.mpr c20
                      have c20b1 : (a0 != 127) = true := bne_iff_ne.mpr c20
                      by_cases c21 : a0 = 129
                      · rw [if_pos c21] at H
                        have c21b0 : (a0 == 129) = true := beq_iff_eq.mpr c21
                        have c21b1 : (a0 != 129) = false := bne_eq_false_iff_eq.mpr c21
                        clear c21
                        have H' := Aside0.mk H
                        clear H
                        go_wp2
                        go_meet
                        case rel => exact ⟨_, ((a0 == 129)), (by first | rfl | (simp; done) | (simp [*]; done)), H', ⟨by have := HJ1.out; first | omega | exact Nat.le_refl _⟩, by repeat (first | exact Drawn0.refl _ | apply Drawn0.step)⟩
                      · rw [if_neg c21] at H
                        have c21b0 : (a0 == 129) = false := beq_eq_false_iff_ne.mpr c21
                        have c21b1 : (a0 != 129) = true := bne_iff_ne.mpr c21
                        have H' := Aside0.mk H
                        clear H
                        go_wp2
                        go_meet
                        case rel => exact ⟨_, ((a0 == 131)), (by first | rfl | (simp; done) | (simp [*]; done)), H', ⟨by have := HJ1.out; first | omega | exact Nat.le_refl _⟩, by repeat (first | exact Drawn0.refl _ | apply Drawn0.step)⟩
        case rest =>
          clear HC14
          try clear c1
          try clear c2
          try clear p2
          try clear c3
          try clear c3b0
          try clear c3b1
          try clear c4
          try clear c4b0
          try clear c4b1
          try clear c5
          try clear c5b0
          try clear c5b1
          try clear c6
          try clear c6b0
          try clear c6b1
          try clear c7
          try clear c7b0
          try clear c7b1
          try clear c8
          try clear c8b0
          try clear c8b1
          try clear c9
          try clear c9b0
          try clear c9b1
          try clear c10
          try clear c10b0
          try clear c10b1
          try clear c11
          try clear c11b0
          try clear c11b1
          try clear c12
          try clear c12b0
          try clear c12b1
          try clear c13
          try clear c15
          try clear c15b0
          try clear c15b1
          try clear c16
          try clear c16b0
          try clear c16b1
          try clear c17
          try clear c17b0
          try clear c17b1
          try clear c18
          try clear c18b0
          try clear c18b1
          try clear c19
          try clear c19b0
          try clear c19b1
          try clear c20
          try clear c20b0
          try clear c20b1
          try clear c21
          try clear c21b0
          try clear c21b1
          try clear p2
          obtain ⟨kq, x18_13, rfl, HA, HJ13, ⟨mc13, rfl⟩⟩ := hcut
          cases kq with
          | zero => exact absurd HA.out (by simp [num_Kinds.j1])
          | succ kj13 =>
            have H := HA.out
            clear HA
            simp only [num_Kinds.j1] at H
            by_cases c22 : x18_13 = true
            · subst c22
              have H1 : (some (2, 2, 2)) = some (r1, r2, r3) := by rw [if_pos rfl] at H; exact H
              clear H
              have H := H1
              clear H1
              simp only [Option.some.injEq, Prod.mk.injEq] at H
              obtain ⟨rfl, rfl, rfl⟩ := H
              go_wp2
              go_ret3
              exact ⟨by first | rfl | (simp; done) | (simp [*]; done), by repeat (first | exact Drawn0.refl _ | apply Drawn0.step)⟩
            · replace c22 := Bool.eq_false_iff.mpr c22
              subst c22
              have H1 : (if a0 = 121 then (num_Kinds.j2 kj13 a0 (a0 == 121)) else (if a0 = 123 then (num_Kinds.j2 kj13 a0 (a0 == 123)) else (num_Kinds.j2 kj13 a0 (a0 == 125)))) = some (r1, r2, r3) := by rw [if_neg (show ¬ (false = true) by decide)] at H; exact H
              clear H
              have H := H1
              clear H1
              have HC23 := Aside0.mk H
              clear H
              go_upto_if 27 with (fail)
              go_cut [27] (fun v27 wc => ∃ (kq : Nat) (x27_22 : Bool), v27 = .bool x27_22 ∧ Aside0 (num_Kinds.j2 kq a0 x27_22 = some (r1, r2, r3)) ∧ Aside0 (kq ≤ kj13) ∧ Drawn0 w wc)
              case first =>
                have H := HC23.out
                clear HC23
                by_cases c24 : a0 = 121
                · rw [if_pos c24] at H
                  have c24b0 : (a0 == 121) = true := beq_iff_eq.mpr c24
                  have c24b1 : (a0 != 121) = false := bne_eq_false_iff_eq.mpr c24
                  clear c24
                  (first | rw [c24b0] | (simp only [i64_w, i32_w]; rw [c24b0]) | skip)
                  have H' := Aside0.mk H
                  clear H
                  go_wp2
                  go_meet
                  case rel => exact ⟨_, ((a0 == 121)), (by first | rfl | (simp; done) | (simp [*]; done)), H', ⟨by have := HJ1.out; have := HJ13.out; first | omega | exact Nat.le_refl _⟩, by repeat (first | exact Drawn0.refl _ | apply Drawn0.step)⟩
                · rw [if_neg c24] at H
                  have c24b0 : (a0 == 121) = false := beq_eq_false_iff_ne.mpr c24
                  have c24b1 : (a0 != 121) = true := bne_iff_ne.mpr c24
                  (first | rw [c24b0] | (simp only [i64_w, i32_w]; rw [c24b0]) | skip)
                  by_cases c25 : a0 = 123
                  · rw [if_pos c25] at H
                    have c25b0 : (a0 == 123) = true := beq_iff_eq.mpr c25
                    have c25b1 : (a0 != 123) = false := bne_eq_false_iff_eq.mpr c25
                    clear c25
                    have H' := Aside0.mk H
                    clear H
                    go_wp2
                    go_meet
                    case rel => exact ⟨_, ((a0 == 123)), (by first | rfl | (simp; done) | (simp [*]; done)), H', ⟨by have := HJ1.out; have := HJ13.out; first | omega | exact Nat.le_refl _⟩, by repeat (first | exact Drawn0.refl _ | apply Drawn0.step)⟩
                  · rw [if_neg c25] at H
                    have c25b0 : (a0 == 123) = false := beq_eq_false_iff_ne.mpr c25
                    have c25b1 : (a0 != 123) = true := bne_iff_ne.mpr c25
                    have H' := Aside0.mk H
                    clear H
                    go_wp2
                    go_meet
                    case rel => exact ⟨_, ((a0 == 125)), (by first | rfl | (simp; done) | (simp [*]; done)), H', ⟨by have := HJ1.out; have := HJ13.out; first | omega | exact Nat.le_refl _⟩, by repeat (first | exact Drawn0.refl _ | apply Drawn0.step)⟩
              case rest =>
                clear HC23
                try clear c1
                try clear c2
                try clear p2
                try clear c3
                try clear c3b0
                try clear c3b1
                try clear c4
                try clear c4b0
                try clear c4b1
                try clear c5
                try clear c5b0
                try clear c5b1
                try clear c6
                try clear c6b0
                try clear c6b1
                try clear c7
                try clear c7b0
                try clear c7b1
                try clear c8
                try clear c8b0
                try clear c8b1
                try clear c9
                try clear c9b0
                try clear c9b1
                try clear c10
                try clear c10b0
                try clear c10b1
                try clear c11
                try clear c11b0
                try clear c11b1
                try clear c12
                try clear c12b0
                try clear c12b1
                try clear c13
                try clear c15
                try clear c15b0
                try clear c15b1
                try clear c16
                try clear c16b0
                try clear c16b1
                try clear c17
                try clear c17b0
                try clear c17b1
                try clear c18
                try clear c18b0
                try clear c18b1
                try clear c19
                try clear c19b0
                try clear c19b1
                try clear c20
                try clear c20b0
                try clear c20b1
                try clear c21
                try clear c21b0
                try clear c21b1
                try clear c22
                try clear c24
                try clear c24b0
                try clear c24b1
                try clear c25
                try clear c25b0
                try clear c25b1
                try clear p2
                obtain ⟨kq, x27_22, rfl, HA, HJ22, ⟨mc22, rfl⟩⟩ := hcut
                cases kq with
                | zero => exact absurd HA.out (by simp [num_Kinds.j2])
                | succ kj22 =>
                  have H := HA.out
                  clear HA
                  simp only [num_Kinds.j2] at H
                  by_cases c26 : x27_22 = true
                  · subst c26
                    have H1 : (some (2, 1, 2)) = some (r1, r2, r3) := by rw [if_pos rfl] at H; exact H
                    clear H
                    have H := H1
                    clear H1
                    simp only [Option.some.injEq, Prod.mk.injEq] at H
                    obtain ⟨rfl, rfl, rfl⟩ := H
                    go_wp2
                    go_ret3
                    exact ⟨by first | rfl | (simp; done) | (simp [*]; done), by repeat (first | exact Drawn0.refl _ | apply Drawn0.step)⟩
                  · replace c26 := Bool.eq_false_iff.mpr c26
                    subst c26
                    have H1 : (if a0 = 148 then (some (2, 2, 1)) else (if a0 = 116 then (num_Kinds.j3 kj22 a0 (a0 == 116)) else (if a0 = 145 then (num_Kinds.j3 kj22 a0 (a0 == 145)) else (if a0 = 146 then (num_Kinds.j3 kj22 a0 (a0 == 146)) else (num_Kinds.j3 kj22 a0 (a0 == 147)))))) = some (r1, r2, r3) := by rw [if_neg (show ¬ (false = true) by decide)] at H; exact H
                    clear H
                    have H := H1
                    clear H1
                    by_cases c27 : a0 = 148
                    · rw [if_pos c27] at H
                      have c27b0 : (a0 == 148) = true := beq_iff_eq.mpr c27
                      have c27b1 : (a0 != 148) = false := bne_eq_false_iff_eq.mpr c27
                      clear c27
                      simp only [Option.some.injEq, Prod.mk.injEq] at H
                      obtain ⟨rfl, rfl, rfl⟩ := H
                      go_wp2
                      go_ret3
                      exact ⟨by first | rfl | (simp; done) | (simp [*]; done), by repeat (first | exact Drawn0.refl _ | apply Drawn0.step)⟩
                    · rw [if_neg c27] at H
                      have c27b0 : (a0 == 148) = false := beq_eq_false_iff_ne.mpr c27
                      have c27b1 : (a0 != 148) = true := bne_iff_ne.mpr c27
                      have HC28 := Aside0.mk H
                      clear H
                      go_upto_if 33 with (fail)
                      go_cut [33] (fun v33 wc => ∃ (kq : Nat) (x33_27 : Bool), v33 = .bool x33_27 ∧ Aside0 (num_Kinds.j3 kq a0 x33_27 = some (r1, r2, r3)) ∧ Aside0 (kq ≤ kj22) ∧ Drawn0 w wc)
                      case first =>
                        have H := HC28.out
                        clear HC28
                        by_cases c29 : a0 = 116
                        · rw [if_pos c29] at H
                          have c29b0 : (a0 == 116) = true := beq_iff_eq.mpr c29
                          have c29b1 : (a0 != 116) = false := bne_eq_false_iff_eq.mpr c29
                          clear c29
                          (first | rw [c29b0] | (simp only [i64_w, i32_w]; rw [c29b0]) | skip)
                          have H' := Aside0.mk H
                          clear H
                          go_wp2
                          go_meet
                          case rel => exact ⟨_, ((a0 == 116)), (by first | rfl | (simp; done) | (simp [*]; done)), H', ⟨by have := HJ1.out; have := HJ13.out; have := HJ22.out; first | omega | exact Nat.le_refl _⟩, by repeat (first | exact Drawn0.refl _ | apply Drawn0.step)⟩
                        · rw [if_neg c29] at H
                          have c29b0 : (a0 == 116) = false := beq_eq_false_iff_ne.mpr c29
                          have c29b1 : (a0 != 116) = true := bne_iff_ne.mpr c29
                          (first | rw [c29b0] | (simp only [i64_w, i32_w]; rw [c29b0]) | skip)
                          by_cases c30 : a0 = 145
                          · rw [if_pos c30] at H
                            have c30b0 : (a0 == 145) = true := beq_iff_eq.mpr c30
                            have c30b1 : (a0 != 145) = false := bne_eq_false_iff_eq.mpr c30
                            clear c30
                            have H' := Aside0.mk H
                            clear H
                            go_wp2
                            go_meet
                            case rel => exact ⟨_, ((a0 == 145)), (by first | rfl | (simp; done) | (simp [*]; done)), H', ⟨by have := HJ1.out; have := HJ13.out; have := HJ22.out; first | omega | exact Nat.le_refl _⟩, by repeat (first | exact Drawn0.refl _ | apply Drawn0.step)⟩
                          · rw [if_neg c30] at H
                            have c30b0 : (a0 == 145) = false := beq_eq_false_iff_ne.mpr c30
                            have c30b1 : (a0 != 145) = true := bne_iff_ne.mpr c30
                            by_cases c31 : a0 = 146
                            · rw [if_pos c31] at H
                              have c31b0 : (a0 == 146) = true := beq_iff_eq.mpr c31
                              have c31b1 : (a0 != 146) = false := bne_eq_false_iff_eq.mpr c31
                              clear c31
                              have H' := Aside0.mk H
                              clear H
                              go_wp2
                              go_meet
                              case rel => exact ⟨_, ((a0 == 146)), (by first | rfl | (simp; done) | (simp [*]; done)), H', ⟨by have := HJ1.out; have := HJ13.out; have := HJ22.out; first | omega | exact Nat.le_refl _⟩, by repeat (first | exact Drawn0.refl _ | apply Drawn0.step)⟩
                            · rw [if_neg c31] at H
                              have c31b0 : (a0 == 146) = false := beq_eq_false_iff_ne.mpr c31
                              have c31b1 : (a0 != 146) = true := bne_iff_ne.mpr c31
                              have H' := Aside0.mk H
                              clear H
                              go_wp2
                              go_meet
                              case rel => exact ⟨_, ((a0 == 147)), (by first | rfl | (simp; done) | (simp [*]; done)), H', ⟨by have := HJ1.out; have := HJ13.out; have := HJ22.out; first | omega | exact Nat.le_refl _⟩, by repeat (first | exact Drawn0.refl _ | apply Drawn0.step)⟩
                      case rest =>
                        clear HC28
                        try clear c1
                        try clear c2
                        try clear p2
                        try clear c3
                        try clear c3b0
                        try clear c3b1
                        try clear c4
                        try clear c4b0
                        try clear c4b1
                        try clear c5
                        try clear c5b0
                        try clear c5b1
                        try clear c6
                        try clear c6b0
                        try clear c6b1
                        try clear c7
                        try clear c7b0
                        try clear c7b1
                        try clear c8
                        try clear c8b0
                        try clear c8b1
                        try clear c9
                        try clear c9b0
                        try clear c9b1
                        try clear c10
                        try clear c10b0
                        try clear c10b1
                        try clear c11
                        try clear c11b0
                        try clear c11b1
                        try clear c12
                        try clear c12b0
                        try clear c12b1
                        try clear c13
                        try clear c15
                        try clear c15b0
                        try clear c15b1
                        try clear c16
                        try clear c16b0
                        try clear c16b1
                        try clear c17
                        try clear c17b0
                        try clear c17b1
                        try clear c18
                        try clear c18b0
                        try clear c18b1
                        try clear c19
                        try clear c19b0
                        try clear c19b1
                        try clear c20
                        try clear c20b0
                        try clear c20b1
                        try clear c21
                        try clear c21b0
                        try clear c21b1
                        try clear c22
                        try clear c24
                        try clear c24b0
                        try clear c24b1
                        try clear c25
                        try clear c25b0
                        try clear c25b1
                        try clear c26
                        try clear c27
                        try clear c27b0
                        try clear c27b1
                        try clear c29
                        try clear c29b0
                        try clear c29b1
                        try clear c30
                        try clear c30b0
                        try clear c30b1
                        try clear c31
                        try clear c31b0
                        try clear c31b1
                        try clear p2
                        obtain ⟨kq, x33_27, rfl, HA, HJ27, ⟨mc27, rfl⟩⟩ := hcut
                        cases kq with
                        | zero => exact absurd HA.out (by simp [num_Kinds.j3])
                        | succ kj27 =>
                          have H := HA.out
                          clear HA
                          simp only [num_Kinds.j3] at H
                          by_cases c32 : x33_27 = true
                          · subst c32
                            have H1 : (some (1, 0, 1)) = some (r1, r2, r3) := by rw [if_pos rfl] at H; exact H
                            clear H
                            have H := H1
                            clear H1
                            simp only [Option.some.injEq, Prod.mk.injEq] at H
                            obtain ⟨rfl, rfl, rfl⟩ := H
                            go_wp2
                            go_ret3
                            exact ⟨by first | rfl | (simp; done) | (simp [*]; done), by repeat (first | exact Drawn0.refl _ | apply Drawn0.step)⟩
                          · replace c32 := Bool.eq_false_iff.mpr c32
                            subst c32
                            have H1 : (if a0 = 117 then (some (2, 0, 2)) else (if a0 = 133 then (some (1, 0, 2)) else (if a0 = 136 then (some (2, 0, 1)) else (some (0, 0, 0))))) = some (r1, r2, r3) := by rw [if_neg (show ¬ (false = true) by decide)] at H; exact H
                            clear H
                            have H := H1
                            clear H1
                            by_cases c33 : a0 = 117
                            · rw [if_pos c33] at H
                              have c33b0 : (a0 == 117) = true := beq_iff_eq.mpr c33
                              have c33b1 : (a0 != 117) = false := bne_eq_false_iff_eq.mpr c33
                              clear c33
                              simp only [Option.some.injEq, Prod.mk.injEq] at H
                              obtain ⟨rfl, rfl, rfl⟩ := H
                              go_wp2
                              go_ret3
                              exact ⟨by first | rfl | (simp; done) | (simp [*]; done), by repeat (first | exact Drawn0.refl _ | apply Drawn0.step)⟩
                            · rw [if_neg c33] at H
                              have c33b0 : (a0 == 117) = false := beq_eq_false_iff_ne.mpr c33
                              have c33b1 : (a0 != 117) = true := bne_iff_ne.mpr c33
                              by_cases c34 : a0 = 133
                              · rw [if_pos c34] at H
                                have c34b0 : (a0 == 133) = true := beq_iff_eq.mpr c34
                                have c34b1 : (a0 != 133) = false := bne_eq_false_iff_eq.mpr c34
                                clear c34
                                simp only [Option.some.injEq, Prod.mk.injEq] at H
                                obtain ⟨rfl, rfl, rfl⟩ := H
                                go_wp2
                                go_ret3
                                exact ⟨by first | rfl | (simp; done) | (simp [*]; done), by repeat (first | exact Drawn0.refl _ | apply Drawn0.step)⟩
                              · rw [if_neg c34] at H
                                have c34b0 : (a0 == 133) = false := beq_eq_false_iff_ne.mpr c34
                                have c34b1 : (a0 != 133) = true := bne_iff_ne.mpr c34
                                by_cases c35 : a0 = 136
                                · rw [if_pos c35] at H
                                  have c35b0 : (a0 == 136) = true := beq_iff_eq.mpr c35
                                  have c35b1 : (a0 != 136) = false := bne_eq_false_iff_eq.mpr c35
                                  clear c35
                                  simp only [Option.some.injEq, Prod.mk.injEq] at H
                                  obtain ⟨rfl, rfl, rfl⟩ := H
                                  go_wp2
                                  go_ret3
                                  exact ⟨by first | rfl | (simp; done) | (simp [*]; done), by repeat (first | exact Drawn0.refl _ | apply Drawn0.step)⟩
                                · rw [if_neg c35] at H
                                  have c35b0 : (a0 == 136) = false := beq_eq_false_iff_ne.mpr c35
                                  have c35b1 : (a0 != 136) = true := bne_iff_ne.mpr c35
                                  simp only [Option.some.injEq, Prod.mk.injEq] at H
                                  obtain ⟨rfl, rfl, rfl⟩ := H
                                  go_wp2
                                  go_ret3
                                  exact ⟨by first | rfl | (simp; done) | (simp [*]; done), by repeat (first | exact Drawn0.refl _ | apply Drawn0.step)⟩

end Go.Proofs.Ytmgeihpankhkcaa.PAll
