-- Printed by this session's own program wip/tools/pp.py (the kit's printer with hooks of the session's); not a text of print.sh.
import Derived.Test.YtbicilgcmopidaaPAllx0
import Derived.Test.YtbicilgcmopidaaPAllx2
namespace Go.Proofs.Ytbicilgcmopidaa.PAll
open Go.RowKit Go.Proofs.YtbicilgcmopidaaW.PrintWords Go.Proofs.YtbicilgcmopidaaW.PrintLast Go.Proofs.YtbicilgcmopidaaW.PrintMore
attribute [local go_sem] max2_int min2_int max_two min_two max_three min_three max_four min_four   -- for this text's walks alone
set_option linter.unusedVariables false
set_option linter.unusedSimpArgs false

/-! ### code_shape: function 23 -/
mutual
def code_shape.j0 : Nat → Int → Bool → Option (Int)
 | 0, _, _ => none
 | k + 1, x0, x9 => if x9 = true then (some 1) else (if x0 = 19 then (code_shape.j1 k x0 true) else (if x0 ≥ 178 then (if x0 ≤ 185 then (code_shape.j1 k x0 true) else (if x0 = 187 then (code_shape.j1 k x0 true) else (if x0 = 189 then (code_shape.j1 k x0 true) else (if x0 = 192 then (code_shape.j1 k x0 true) else (code_shape.j1 k x0 (x0 == 193)))))) else (if x0 = 187 then (code_shape.j1 k x0 true) else (if x0 = 189 then (code_shape.j1 k x0 true) else (if x0 = 192 then (code_shape.j1 k x0 true) else (code_shape.j1 k x0 (x0 == 193)))))))
def code_shape.j1 : Nat → Int → Bool → Option (Int)
 | 0, _, _ => none
 | k + 1, x0, x36 => if x36 = true then (some 3) else (if x0 = 132 then (some 6) else (if x0 ≥ 153 then (if x0 ≤ 167 then (code_shape.j2 k x0 true) else (if x0 = 198 then (code_shape.j2 k x0 true) else (code_shape.j2 k x0 (x0 == 199)))) else (if x0 = 198 then (code_shape.j2 k x0 true) else (code_shape.j2 k x0 (x0 == 199)))))
def code_shape.j2 : Nat → Int → Bool → Option (Int)
 | 0, _, _ => none
 | k + 1, x0, x66 => if x66 = true then (some 5) else (if x0 ≤ 10 then (code_shape.j3 k x0 true) else (if x0 = 46 then (code_shape.j3 k x0 true) else (if x0 = 47 then (code_shape.j3 k x0 true) else (if x0 = 50 then (code_shape.j3 k x0 true) else (if x0 = 79 then (code_shape.j3 k x0 true) else (if x0 = 80 then (code_shape.j3 k x0 true) else (if x0 = 83 then (code_shape.j3 k x0 true) else (if x0 = 87 then (code_shape.j3 k x0 true) else (if x0 ≥ 89 then (if x0 ≤ 90 then (code_shape.j3 k x0 true) else (code_shape.j3 k x0 (x0 == 95))) else (code_shape.j3 k x0 (x0 == 95)))))))))))
def code_shape.j3 : Nat → Int → Bool → Option (Int)
 | 0, _, _ => none
 | k + 1, x0, x81 => if x81 = true then (some 0) else (if x0 ≥ 96 then (code_shape.j4 k x0 (decide (x0 ≤ 133))) else (code_shape.j4 k x0 false))
def code_shape.j4 : Nat → Int → Bool → Option (Int)
 | 0, _, _ => none
 | k + 1, x0, x124 => if x124 = true then ((code_arithmetic.f x0).bind fun t101 => (some t101)) else (if x0 = 136 then (some 0) else (if x0 ≥ 145 then (if x0 ≤ 148 then (some 0) else (if x0 = 172 then (some 0) else (if x0 = 173 then (some 0) else (if x0 = 176 then (some 0) else (if x0 = 177 then (some 0) else (if x0 = 190 then (some 0) else (if x0 = 191 then (some 0) else (some (-1))))))))) else (if x0 = 172 then (some 0) else (if x0 = 173 then (some 0) else (if x0 = 176 then (some 0) else (if x0 = 177 then (some 0) else (if x0 = 190 then (some 0) else (if x0 = 191 then (some 0) else (some (-1))))))))))
end
def code_shape.f (k : Nat) (a0 : Int) : Option (Int) := if a0 = 16 then (some 2) else (if a0 = 17 then (some 4) else (if a0 = 21 then (code_shape.j0 k a0 true) else (if a0 = 22 then (code_shape.j0 k a0 true) else (if a0 = 25 then (code_shape.j0 k a0 true) else (if a0 = 54 then (code_shape.j0 k a0 true) else (if a0 = 55 then (code_shape.j0 k a0 true) else (if a0 = 58 then (code_shape.j0 k a0 true) else (code_shape.j0 k a0 (a0 == 188)))))))))
theorem code_shape.mono_l : ∀ k, (∀ y0 y1, LeO (code_shape.j0 k y0 y1) (code_shape.j0 (k + 1) y0 y1)) ∧ (∀ y0 y1, LeO (code_shape.j1 k y0 y1) (code_shape.j1 (k + 1) y0 y1)) ∧ (∀ y0 y1, LeO (code_shape.j2 k y0 y1) (code_shape.j2 (k + 1) y0 y1)) ∧ (∀ y0 y1, LeO (code_shape.j3 k y0 y1) (code_shape.j3 (k + 1) y0 y1)) ∧ (∀ y0 y1, LeO (code_shape.j4 k y0 y1) (code_shape.j4 (k + 1) y0 y1))
 | 0 => ⟨fun _ _ r h => by simp [code_shape.j0] at h, fun _ _ r h => by simp [code_shape.j1] at h, fun _ _ r h => by simp [code_shape.j2] at h, fun _ _ r h => by simp [code_shape.j3] at h, fun _ _ r h => by simp [code_shape.j4] at h⟩
 | k + 1 => by
  obtain ⟨ih0, ih1, ih2, ih3, ih4⟩ := code_shape.mono_l k
  refine ⟨?_, ?_, ?_, ?_, ?_⟩
  ·intro y0 y1
   unfold code_shape.j0
   repeat' first
   | (with_reducible exact ih0 _ _)
   | (with_reducible exact ih1 _ _)
   | (with_reducible exact ih2 _ _)
   | (with_reducible exact ih3 _ _)
   | (with_reducible exact ih4 _ _)
   | (with_reducible exact LeO.refl _)
   | (with_reducible exact LeO.none _)
   | (with_reducible refine LeO.ite ?_ ?_)
   | (with_reducible refine LeO.bind ?_ (fun _ => ?_))
   | exact ih0 _ _
   | exact ih1 _ _
   | exact ih2 _ _
   | exact ih3 _ _
   | exact ih4 _ _
   | exact LeO.none _
   | refine LeO.ite ?_ ?_
   | refine LeO.bind ?_ (fun _ => ?_)
  ·intro y0 y1
   unfold code_shape.j1
   repeat' first
   | (with_reducible exact ih0 _ _)
   | (with_reducible exact ih1 _ _)
   | (with_reducible exact ih2 _ _)
   | (with_reducible exact ih3 _ _)
   | (with_reducible exact ih4 _ _)
   | (with_reducible exact LeO.refl _)
   | (with_reducible exact LeO.none _)
   | (with_reducible refine LeO.ite ?_ ?_)
   | (with_reducible refine LeO.bind ?_ (fun _ => ?_))
   | exact ih0 _ _
   | exact ih1 _ _
   | exact ih2 _ _
   | exact ih3 _ _
   | exact ih4 _ _
   | exact LeO.none _
   | refine LeO.ite ?_ ?_
   | refine LeO.bind ?_ (fun _ => ?_)
  ·intro y0 y1
   unfold code_shape.j2
   repeat' first
   | (with_reducible exact ih0 _ _)
   | (with_reducible exact ih1 _ _)
   | (with_reducible exact ih2 _ _)
   | (with_reducible exact ih3 _ _)
   | (with_reducible exact ih4 _ _)
   | (with_reducible exact LeO.refl _)
   | (with_reducible exact LeO.none _)
   | (with_reducible refine LeO.ite ?_ ?_)
   | (with_reducible refine LeO.bind ?_ (fun _ => ?_))
   | exact ih0 _ _
   | exact ih1 _ _
   | exact ih2 _ _
   | exact ih3 _ _
   | exact ih4 _ _
   | exact LeO.none _
   | refine LeO.ite ?_ ?_
   | refine LeO.bind ?_ (fun _ => ?_)
  ·intro y0 y1
   unfold code_shape.j3
   repeat' first
   | (with_reducible exact ih0 _ _)
   | (with_reducible exact ih1 _ _)
   | (with_reducible exact ih2 _ _)
   | (with_reducible exact ih3 _ _)
   | (with_reducible exact ih4 _ _)
   | (with_reducible exact LeO.refl _)
   | (with_reducible exact LeO.none _)
   | (with_reducible refine LeO.ite ?_ ?_)
   | (with_reducible refine LeO.bind ?_ (fun _ => ?_))
   | exact ih0 _ _
   | exact ih1 _ _
   | exact ih2 _ _
   | exact ih3 _ _
   | exact ih4 _ _
   | exact LeO.none _
   | refine LeO.ite ?_ ?_
   | refine LeO.bind ?_ (fun _ => ?_)
  ·intro y0 y1
   unfold code_shape.j4
   repeat' first
   | (with_reducible exact ih0 _ _)
   | (with_reducible exact ih1 _ _)
   | (with_reducible exact ih2 _ _)
   | (with_reducible exact ih3 _ _)
   | (with_reducible exact ih4 _ _)
   | (with_reducible exact LeO.refl _)
   | (with_reducible exact LeO.none _)
   | (with_reducible refine LeO.ite ?_ ?_)
   | (with_reducible refine LeO.bind ?_ (fun _ => ?_))
   | exact ih0 _ _
   | exact ih1 _ _
   | exact ih2 _ _
   | exact ih3 _ _
   | exact ih4 _ _
   | exact LeO.none _
   | refine LeO.ite ?_ ?_
   | refine LeO.bind ?_ (fun _ => ?_)
theorem code_shape.mono : ∀ a0 k, LeO (code_shape.f k a0) (code_shape.f (k + 1) a0) := by
 intro a0 k
 obtain ⟨ih0, ih1, ih2, ih3, ih4⟩ := code_shape.mono_l k
 unfold code_shape.f
 repeat' first
   | (with_reducible exact ih0 _ _)
   | (with_reducible exact ih1 _ _)
   | (with_reducible exact ih2 _ _)
   | (with_reducible exact ih3 _ _)
   | (with_reducible exact ih4 _ _)
   | (with_reducible exact LeO.refl _)
   | (with_reducible exact LeO.none _)
   | (with_reducible refine LeO.ite ?_ ?_)
   | (with_reducible refine LeO.bind ?_ (fun _ => ?_))
   | exact ih0 _ _
   | exact ih1 _ _
   | exact ih2 _ _
   | exact ih3 _ _
   | exact ih4 _ _
   | exact LeO.none _
   | refine LeO.ite ?_ ?_
   | refine LeO.bind ?_ (fun _ => ?_)
set_option maxHeartbeats 8000000 in
set_option maxRecDepth 100000 in
theorem code_shape.calls (k : Nat) (a0 : Int) (r : Int) (w : World) (h : code_shape.f k a0 = some r) :
  Calls Try.prog 23 #[.int .i64 a0] w fun e w' => e = .returned (.int .i64 r) ∧ Drawn0 w w' := by
 have H : (if a0 = 16 then (some 2) else (if a0 = 17 then (some 4) else (if a0 = 21 then (code_shape.j0 k a0 true) else (if a0 = 22 then (code_shape.j0 k a0 true) else (if a0 = 25 then (code_shape.j0 k a0 true) else (if a0 = 54 then (code_shape.j0 k a0 true) else (if a0 = 55 then (code_shape.j0 k a0 true) else (if a0 = 58 then (code_shape.j0 k a0 true) else (code_shape.j0 k a0 (a0 == 188)))))))))) = some r := h
 clear h
 by_cases c2 : a0 = 16
 ·rw [if_pos c2] at H
  have c2b0 : (a0 == 16) = true := beq_iff_eq.mpr c2
  have c2b1 : (a0 != 16) = false := bne_eq_false_iff_eq.mpr c2
  clear c2
  as_aux_lemma =>
   obtain rfl := Option.some.inj H
   go_enter Try.func23, Try.ntmps23
   go_wp2
   go_ret
   exact ⟨by first | rfl | (simp; done) | (simp [*]; done), by repeat (first | exact Drawn0.refl _ | apply Drawn0.step)⟩
 ·rw [if_neg c2] at H
  have c2b0 : (a0 == 16) = false := beq_eq_false_iff_ne.mpr c2
  have c2b1 : (a0 != 16) = true := bne_iff_ne.mpr c2
  by_cases c3 : a0 = 17
  ·rw [if_pos c3] at H
   have c3b0 : (a0 == 17) = true := beq_iff_eq.mpr c3
   have c3b1 : (a0 != 17) = false := bne_eq_false_iff_eq.mpr c3
   clear c3
   as_aux_lemma =>
    obtain rfl := Option.some.inj H
    go_enter Try.func23, Try.ntmps23
    go_wp2
    go_ret
    exact ⟨by first | rfl | (simp; done) | (simp [*]; done), by repeat (first | exact Drawn0.refl _ | apply Drawn0.step)⟩
  ·rw [if_neg c3] at H
   have c3b0 : (a0 == 17) = false := beq_eq_false_iff_ne.mpr c3
   have c3b1 : (a0 != 17) = true := bne_iff_ne.mpr c3
   have HC4 := Aside0.mk H
   clear H
   go_enter Try.func23, Try.ntmps23
   go_upto_region 5 with (fail)
   go_cut [9] (fun v9 wc => ∃ (kq : Nat) (x9_3 : Bool), v9 = .bool x9_3 ∧ Aside0 (code_shape.j0 kq a0 x9_3 = some r) ∧ Aside0 (kq ≤ k) ∧ Drawn0 w wc)
   case first =>
    have H := HC4.out
    clear HC4
    by_cases c5 : a0 = 21
    ·rw [if_pos c5] at H
     have c5b0 : (a0 == 21) = true := beq_iff_eq.mpr c5
     have c5b1 : (a0 != 21) = false := bne_eq_false_iff_eq.mpr c5
     clear c5
     (first | rw [c5b0] | (simp only [i64_w, i32_w]; rw [c5b0]) | skip)
     as_aux_lemma =>
      have H' := Aside0.mk H
      clear H
      go_wp2
      go_meet
      case rel => exact ⟨_, (true), (by first | rfl | (simp; done) | (simp [*]; done)), H', ⟨by first | omega | exact Nat.le_refl _⟩, by repeat (first | exact Drawn0.refl _ | apply Drawn0.step)⟩
    ·rw [if_neg c5] at H
     have c5b0 : (a0 == 21) = false := beq_eq_false_iff_ne.mpr c5
     have c5b1 : (a0 != 21) = true := bne_iff_ne.mpr c5
     (first | rw [c5b0] | (simp only [i64_w, i32_w]; rw [c5b0]) | skip)
     by_cases c6 : a0 = 22
     ·rw [if_pos c6] at H
      have c6b0 : (a0 == 22) = true := beq_iff_eq.mpr c6
      have c6b1 : (a0 != 22) = false := bne_eq_false_iff_eq.mpr c6
      clear c6
      as_aux_lemma =>
       have H' := Aside0.mk H
       clear H
       go_wp2
       go_meet
       case rel => exact ⟨_, (true), (by first | rfl | (simp; done) | (simp [*]; done)), H', ⟨by first | omega | exact Nat.le_refl _⟩, by repeat (first | exact Drawn0.refl _ | apply Drawn0.step)⟩
     ·rw [if_neg c6] at H
      have c6b0 : (a0 == 22) = false := beq_eq_false_iff_ne.mpr c6
      have c6b1 : (a0 != 22) = true := bne_iff_ne.mpr c6
      by_cases c7 : a0 = 25
      ·rw [if_pos c7] at H
       have c7b0 : (a0 == 25) = true := beq_iff_eq.mpr c7
       have c7b1 : (a0 != 25) = false := bne_eq_false_iff_eq.mpr c7
       clear c7
       as_aux_lemma =>
        have H' := Aside0.mk H
        clear H
        go_wp2
        go_meet
        case rel => exact ⟨_, (true), (by first | rfl | (simp; done) | (simp [*]; done)), H', ⟨by first | omega | exact Nat.le_refl _⟩, by repeat (first | exact Drawn0.refl _ | apply Drawn0.step)⟩
      ·rw [if_neg c7] at H
       have c7b0 : (a0 == 25) = false := beq_eq_false_iff_ne.mpr c7
       have c7b1 : (a0 != 25) = true := bne_iff_ne.mpr c7
       by_cases c8 : a0 = 54
       ·rw [if_pos c8] at H
        have c8b0 : (a0 == 54) = true := beq_iff_eq.mpr c8
        have c8b1 : (a0 != 54) = false := bne_eq_false_iff_eq.mpr c8
        clear c8
        as_aux_lemma =>
         have H' := Aside0.mk H
         clear H
         go_wp2
         go_meet
         case rel => exact ⟨_, (true), (by first | rfl | (simp; done) | (simp [*]; done)), H', ⟨by first | omega | exact Nat.le_refl _⟩, by repeat (first | exact Drawn0.refl _ | apply Drawn0.step)⟩
       ·rw [if_neg c8] at H
        have c8b0 : (a0 == 54) = false := beq_eq_false_iff_ne.mpr c8
        have c8b1 : (a0 != 54) = true := bne_iff_ne.mpr c8
        by_cases c9 : a0 = 55
        ·rw [if_pos c9] at H
         have c9b0 : (a0 == 55) = true := beq_iff_eq.mpr c9
         have c9b1 : (a0 != 55) = false := bne_eq_false_iff_eq.mpr c9
         clear c9
         as_aux_lemma =>
          have H' := Aside0.mk H
          clear H
          go_wp2
          go_meet
          case rel => exact ⟨_, (true), (by first | rfl | (simp; done) | (simp [*]; done)), H', ⟨by first | omega | exact Nat.le_refl _⟩, by repeat (first | exact Drawn0.refl _ | apply Drawn0.step)⟩
        ·rw [if_neg c9] at H
         have c9b0 : (a0 == 55) = false := beq_eq_false_iff_ne.mpr c9
         have c9b1 : (a0 != 55) = true := bne_iff_ne.mpr c9
         by_cases c10 : a0 = 58
         ·rw [if_pos c10] at H
          have c10b0 : (a0 == 58) = true := beq_iff_eq.mpr c10
          have c10b1 : (a0 != 58) = false := bne_eq_false_iff_eq.mpr c10
          clear c10
          as_aux_lemma =>
           have H' := Aside0.mk H
           clear H
           go_wp2
           go_meet
           case rel => exact ⟨_, (true), (by first | rfl | (simp; done) | (simp [*]; done)), H', ⟨by first | omega | exact Nat.le_refl _⟩, by repeat (first | exact Drawn0.refl _ | apply Drawn0.step)⟩
         ·rw [if_neg c10] at H
          have c10b0 : (a0 == 58) = false := beq_eq_false_iff_ne.mpr c10
          have c10b1 : (a0 != 58) = true := bne_iff_ne.mpr c10
          as_aux_lemma =>
           have H' := Aside0.mk H
           clear H
           go_wp2
           go_meet
           case rel => exact ⟨_, ((a0 == 188)), (by first | rfl | (simp; done) | (simp [*]; done)), H', ⟨by first | omega | exact Nat.le_refl _⟩, by repeat (first | exact Drawn0.refl _ | apply Drawn0.step)⟩
   case rest =>
    clear HC4
    try clear c1
    try clear c2
    try clear c2b0
    try clear c2b1
    try clear p2
    try clear c3
    try clear c3b0
    try clear c3b1
    try clear c5
    try clear c5b0
    try clear c5b1
    try clear c6
    try clear c6b0
    try clear c6b1
    try clear c7
    try clear c7b0
    try clear c7b1
    try clear c8
    try clear c8b0
    try clear c8b1
    try clear c9
    try clear c9b0
    try clear c9b1
    try clear c10
    try clear c10b0
    try clear c10b1
    obtain ⟨kq, x9_3, rfl, HA, HJ3, ⟨mc3, rfl⟩⟩ := hcut
    cases kq with
    | zero => exact absurd HA.out (by simp [code_shape.j0])
    | succ kj3 =>
     have H := HA.out
     clear HA
     simp only [code_shape.j0] at H
     by_cases c11 : x9_3 = true
     ·subst c11
      have H1 : (some 1) = some r := by rw [if_pos rfl] at H; exact H
      clear H
      have H := H1
      clear H1
      as_aux_lemma =>
       obtain rfl := Option.some.inj H
       go_wp2
       go_ret
       exact ⟨by first | rfl | (simp; done) | (simp [*]; done), by repeat (first | exact Drawn0.refl _ | apply Drawn0.step)⟩
     ·replace c11 := Bool.eq_false_iff.mpr c11
      subst c11
      have H1 : (if a0 = 19 then (code_shape.j1 kj3 a0 true) else (if a0 ≥ 178 then (if a0 ≤ 185 then (code_shape.j1 kj3 a0 true) else (if a0 = 187 then (code_shape.j1 kj3 a0 true) else (if a0 = 189 then (code_shape.j1 kj3 a0 true) else (if a0 = 192 then (code_shape.j1 kj3 a0 true) else (code_shape.j1 kj3 a0 (a0 == 193)))))) else (if a0 = 187 then (code_shape.j1 kj3 a0 true) else (if a0 = 189 then (code_shape.j1 kj3 a0 true) else (if a0 = 192 then (code_shape.j1 kj3 a0 true) else (code_shape.j1 kj3 a0 (a0 == 193))))))) = some r := by rw [if_neg (show ¬ (false = true) by decide)] at H; exact H
      clear H
      have H := H1
      clear H1
      have HC12 := Aside0.mk H
      clear H
      go_upto_region 7 with (fail)
      go_cut [36] (fun v36 wc => ∃ (kq : Nat) (x36_11 : Bool), v36 = .bool x36_11 ∧ Aside0 (code_shape.j1 kq a0 x36_11 = some r) ∧ Aside0 (kq ≤ kj3) ∧ Drawn0 w wc)
      case first =>
       have H := HC12.out
       clear HC12
       by_cases c13 : a0 = 19
       ·rw [if_pos c13] at H
        have c13b0 : (a0 == 19) = true := beq_iff_eq.mpr c13
        have c13b1 : (a0 != 19) = false := bne_eq_false_iff_eq.mpr c13
        clear c13
        (first | rw [c13b0] | (simp only [i64_w, i32_w]; rw [c13b0]) | skip)
        as_aux_lemma =>
         have H' := Aside0.mk H
         clear H
         go_wp2
         go_meet
         case rel => exact ⟨_, (true), (by first | rfl | (simp; done) | (simp [*]; done)), H', ⟨by have := HJ3.out; first | omega | exact Nat.le_refl _⟩, by repeat (first | exact Drawn0.refl _ | apply Drawn0.step)⟩
       ·rw [if_neg c13] at H
        have c13b0 : (a0 == 19) = false := beq_eq_false_iff_ne.mpr c13
        have c13b1 : (a0 != 19) = true := bne_iff_ne.mpr c13
        (first | rw [c13b0] | (simp only [i64_w, i32_w]; rw [c13b0]) | skip)
        by_cases c14 : a0 ≥ 178
        ·rw [if_pos c14] at H
         have c14b0 : decide (178 ≤ a0) = true := decide_eq_true c14
         clear c14
         by_cases c15 : a0 ≤ 185
         ·rw [if_pos c15] at H
          have c15b0 : decide (a0 ≤ 185) = true := decide_eq_true c15
          clear c15
          as_aux_lemma =>
           have H' := Aside0.mk H
           clear H
           go_wp2
           go_meet
           case rel => exact ⟨_, (true), (by first | rfl | (simp; done) | (simp [*]; done)), H', ⟨by have := HJ3.out; first | omega | exact Nat.le_refl _⟩, by repeat (first | exact Drawn0.refl _ | apply Drawn0.step)⟩
         ·rw [if_neg c15] at H
          have c15b0 : decide (a0 ≤ 185) = false := decide_eq_false c15
          clear c15
          by_cases c16 : a0 = 187
          ·rw [if_pos c16] at H
           have c16b0 : (a0 == 187) = true := beq_iff_eq.mpr c16
           have c16b1 : (a0 != 187) = false := bne_eq_false_iff_eq.mpr c16
           clear c16
           as_aux_lemma =>
            have H' := Aside0.mk H
            clear H
            go_wp2
            go_meet
            case rel => exact ⟨_, (true), (by first | rfl | (simp; done) | (simp [*]; done)), H', ⟨by have := HJ3.out; first | omega | exact Nat.le_refl _⟩, by repeat (first | exact Drawn0.refl _ | apply Drawn0.step)⟩
          ·rw [if_neg c16] at H
           have c16b0 : (a0 == 187) = false := beq_eq_false_iff_ne.mpr c16
           have c16b1 : (a0 != 187) = true := bne_iff_ne.mpr c16
           by_cases c17 : a0 = 189
           ·rw [if_pos c17] at H
            have c17b0 : (a0 == 189) = true := beq_iff_eq.mpr c17
            have c17b1 : (a0 != 189) = false := bne_eq_false_iff_eq.mpr c17
            clear c17
            as_aux_lemma =>
             have H' := Aside0.mk H
             clear H
             go_wp2
             go_meet
             case rel => exact ⟨_, (true), (by first | rfl | (simp; done) | (simp [*]; done)), H', ⟨by have := HJ3.out; first | omega | exact Nat.le_refl _⟩, by repeat (first | exact Drawn0.refl _ | apply Drawn0.step)⟩
           ·rw [if_neg c17] at H
            have c17b0 : (a0 == 189) = false := beq_eq_false_iff_ne.mpr c17
            have c17b1 : (a0 != 189) = true := bne_iff_ne.mpr c17
            by_cases c18 : a0 = 192
            ·rw [if_pos c18] at H
             have c18b0 : (a0 == 192) = true := beq_iff_eq.mpr c18
             have c18b1 : (a0 != 192) = false := bne_eq_false_iff_eq.mpr c18
             clear c18
             as_aux_lemma =>
              have H' := Aside0.mk H
              clear H
              go_wp2
              go_meet
              case rel => exact ⟨_, (true), (by first | rfl | (simp; done) | (simp [*]; done)), H', ⟨by have := HJ3.out; first | omega | exact Nat.le_refl _⟩, by repeat (first | exact Drawn0.refl _ | apply Drawn0.step)⟩
            ·rw [if_neg c18] at H
             have c18b0 : (a0 == 192) = false := beq_eq_false_iff_ne.mpr c18
             have c18b1 : (a0 != 192) = true := bne_iff_ne.mpr c18
             as_aux_lemma =>
              have H' := Aside0.mk H
              clear H
              go_wp2
              go_meet
              case rel => exact ⟨_, ((a0 == 193)), (by first | rfl | (simp; done) | (simp [*]; done)), H', ⟨by have := HJ3.out; first | omega | exact Nat.le_refl _⟩, by repeat (first | exact Drawn0.refl _ | apply Drawn0.step)⟩
        ·rw [if_neg c14] at H
         have c14b0 : decide (178 ≤ a0) = false := decide_eq_false c14
         clear c14
         by_cases c19 : a0 = 187
         ·rw [if_pos c19] at H
          have c19b0 : (a0 == 187) = true := beq_iff_eq.mpr c19
          have c19b1 : (a0 != 187) = false := bne_eq_false_iff_eq.mpr c19
          clear c19
          as_aux_lemma =>
           have H' := Aside0.mk H
           clear H
           go_wp2
           go_meet
           case rel => exact ⟨_, (true), (by first | rfl | (simp; done) | (simp [*]; done)), H', ⟨by have := HJ3.out; first | omega | exact Nat.le_refl _⟩, by repeat (first | exact Drawn0.refl _ | apply Drawn0.step)⟩
         ·rw [if_neg c19] at H
          have c19b0 : (a0 == 187) = false := beq_eq_false_iff_ne.mpr c19
          have c19b1 : (a0 != 187) = true := bne_iff_ne.mpr c19
          by_cases c20 : a0 = 189
          ·rw [if_pos c20] at H
           have c20b0 : (a0 == 189) = true := beq_iff_eq.mpr c20
           have c20b1 : (a0 != 189) = false := bne_eq_false_iff_eq.mpr c20
           clear c20
           as_aux_lemma =>
            have H' := Aside0.mk H
            clear H
            go_wp2
            go_meet
            case rel => exact ⟨_, (true), (by first | rfl | (simp; done) | (simp [*]; done)), H', ⟨by have := HJ3.out; first | omega | exact Nat.le_refl _⟩, by repeat (first | exact Drawn0.refl _ | apply Drawn0.step)⟩
          ·rw [if_neg c20] at H
           have c20b0 : (a0 == 189) = false := beq_eq_false_iff_ne.mpr c20
           have c20b1 : (a0 != 189) = true := bne_iff_ne.mpr c20
           by_cases c21 : a0 = 192
           ·rw [if_pos c21] at H
            have c21b0 : (a0 == 192) = true := beq_iff_eq.mpr c21
            have c21b1 : (a0 != 192) = false := bne_eq_false_iff_eq.mpr c21
            clear c21
            as_aux_lemma =>
             have H' := Aside0.mk H
             clear H
             go_wp2
             go_meet
             case rel => exact ⟨_, (true), (by first | rfl | (simp; done) | (simp [*]; done)), H', ⟨by have := HJ3.out; first | omega | exact Nat.le_refl _⟩, by repeat (first | exact Drawn0.refl _ | apply Drawn0.step)⟩
           ·rw [if_neg c21] at H
            have c21b0 : (a0 == 192) = false := beq_eq_false_iff_ne.mpr c21
            have c21b1 : (a0 != 192) = true := bne_iff_ne.mpr c21
            as_aux_lemma =>
             have H' := Aside0.mk H
             clear H
             go_wp2
             go_meet
             case rel => exact ⟨_, ((a0 == 193)), (by first | rfl | (simp; done) | (simp [*]; done)), H', ⟨by have := HJ3.out; first | omega | exact Nat.le_refl _⟩, by repeat (first | exact Drawn0.refl _ | apply Drawn0.step)⟩
      case rest =>
       clear HC12
       try clear c1
       try clear c2
       try clear c2b0
       try clear c2b1
       try clear p2
       try clear c3
       try clear c3b0
       try clear c3b1
       try clear c5
       try clear c5b0
       try clear c5b1
       try clear c6
       try clear c6b0
       try clear c6b1
       try clear c7
       try clear c7b0
       try clear c7b1
       try clear c8
       try clear c8b0
       try clear c8b1
       try clear c9
       try clear c9b0
       try clear c9b1
       try clear c10
       try clear c10b0
       try clear c10b1
       try clear c11
       try clear c13
       try clear c13b0
       try clear c13b1
       try clear c14
       try clear c14b0
       try clear c15
       try clear c15b0
       try clear c16
       try clear c16b0
       try clear c16b1
       try clear c17
       try clear c17b0
       try clear c17b1
       try clear c18
       try clear c18b0
       try clear c18b1
       try clear c19
       try clear c19b0
       try clear c19b1
       try clear c20
       try clear c20b0
       try clear c20b1
       try clear c21
       try clear c21b0
       try clear c21b1
       try clear p2
       obtain ⟨kq, x36_11, rfl, HA, HJ11, ⟨mc11, rfl⟩⟩ := hcut
       cases kq with
       | zero => exact absurd HA.out (by simp [code_shape.j1])
       | succ kj11 =>
        have H := HA.out
        clear HA
        simp only [code_shape.j1] at H
        by_cases c22 : x36_11 = true
        ·subst c22
         have H1 : (some 3) = some r := by rw [if_pos rfl] at H; exact H
         clear H
         have H := H1
         clear H1
         as_aux_lemma =>
          obtain rfl := Option.some.inj H
          go_wp2
          go_ret
          exact ⟨by first | rfl | (simp; done) | (simp [*]; done), by repeat (first | exact Drawn0.refl _ | apply Drawn0.step)⟩
        ·replace c22 := Bool.eq_false_iff.mpr c22
         subst c22
         have H1 : (if a0 = 132 then (some 6) else (if a0 ≥ 153 then (if a0 ≤ 167 then (code_shape.j2 kj11 a0 true) else (if a0 = 198 then (code_shape.j2 kj11 a0 true) else (code_shape.j2 kj11 a0 (a0 == 199)))) else (if a0 = 198 then (code_shape.j2 kj11 a0 true) else (code_shape.j2 kj11 a0 (a0 == 199))))) = some r := by rw [if_neg (show ¬ (false = true) by decide)] at H; exact H
         clear H
         have H := H1
         clear H1
         by_cases c23 : a0 = 132
         ·rw [if_pos c23] at H
          have c23b0 : (a0 == 132) = true := beq_iff_eq.mpr c23
          have c23b1 : (a0 != 132) = false := bne_eq_false_iff_eq.mpr c23
          clear c23
          as_aux_lemma =>
           obtain rfl := Option.some.inj H
           go_wp2
           go_ret
           exact ⟨by first | rfl | (simp; done) | (simp [*]; done), by repeat (first | exact Drawn0.refl _ | apply Drawn0.step)⟩
         ·rw [if_neg c23] at H
          have c23b0 : (a0 == 132) = false := beq_eq_false_iff_ne.mpr c23
          have c23b1 : (a0 != 132) = true := bne_iff_ne.mpr c23
          have HC24 := Aside0.mk H
          clear H
          go_upto_region 11 with (fail)
          go_cut [66] (fun v66 wc => ∃ (kq : Nat) (x66_23 : Bool), v66 = .bool x66_23 ∧ Aside0 (code_shape.j2 kq a0 x66_23 = some r) ∧ Aside0 (kq ≤ kj11) ∧ Drawn0 w wc)
          case first =>
           have H := HC24.out
           clear HC24
           by_cases c25 : a0 ≥ 153
           ·rw [if_pos c25] at H
            have c25b0 : decide (153 ≤ a0) = true := decide_eq_true c25
            clear c25
            (first | rw [c25b0] | (simp only [i64_w, i32_w]; rw [c25b0]) | skip)
            by_cases c26 : a0 ≤ 167
            ·rw [if_pos c26] at H
             have c26b0 : decide (a0 ≤ 167) = true := decide_eq_true c26
             clear c26
             as_aux_lemma =>
              have H' := Aside0.mk H
              clear H
              go_wp2
              go_meet
              case rel => exact ⟨_, (true), (by first | rfl | (simp; done) | (simp [*]; done)), H', ⟨by have := HJ3.out; have := HJ11.out; first | omega | exact Nat.le_refl _⟩, by repeat (first | exact Drawn0.refl _ | apply Drawn0.step)⟩
            ·rw [if_neg c26] at H
             have c26b0 : decide (a0 ≤ 167) = false := decide_eq_false c26
             clear c26
             by_cases c27 : a0 = 198
             ·rw [if_pos c27] at H
              have c27b0 : (a0 == 198) = true := beq_iff_eq.mpr c27
              have c27b1 : (a0 != 198) = false := bne_eq_false_iff_eq.mpr c27
              clear c27
              as_aux_lemma =>
               have H' := Aside0.mk H
               clear H
               go_wp2
               go_meet
               case rel => exact ⟨_, (true), (by first | rfl | (simp; done) | (simp [*]; done)), H', ⟨by have := HJ3.out; have := HJ11.out; first | omega | exact Nat.le_refl _⟩, by repeat (first | exact Drawn0.refl _ | apply Drawn0.step)⟩
             ·rw [if_neg c27] at H
              have c27b0 : (a0 == 198) = false := beq_eq_false_iff_ne.mpr c27
              have c27b1 : (a0 != 198) = true := bne_iff_ne.mpr c27
              as_aux_lemma =>
               have H' := Aside0.mk H
               clear H
               go_wp2
               go_meet
               case rel => exact ⟨_, ((a0 == 199)), (by first | rfl | (simp; done) | (simp [*]; done)), H', ⟨by have := HJ3.out; have := HJ11.out; first | omega | exact Nat.le_refl _⟩, by repeat (first | exact Drawn0.refl _ | apply Drawn0.step)⟩
           ·rw [if_neg c25] at H
            have c25b0 : decide (153 ≤ a0) = false := decide_eq_false c25
            clear c25
            (first | rw [c25b0] | (simp only [i64_w, i32_w]; rw [c25b0]) | skip)
            by_cases c28 : a0 = 198
            ·rw [if_pos c28] at H
             have c28b0 : (a0 == 198) = true := beq_iff_eq.mpr c28
             have c28b1 : (a0 != 198) = false := bne_eq_false_iff_eq.mpr c28
             clear c28
             as_aux_lemma =>
              have H' := Aside0.mk H
              clear H
              go_wp2
              go_meet
              case rel => exact ⟨_, (true), (by first | rfl | (simp; done) | (simp [*]; done)), H', ⟨by have := HJ3.out; have := HJ11.out; first | omega | exact Nat.le_refl _⟩, by repeat (first | exact Drawn0.refl _ | apply Drawn0.step)⟩
            ·rw [if_neg c28] at H
             have c28b0 : (a0 == 198) = false := beq_eq_false_iff_ne.mpr c28
             have c28b1 : (a0 != 198) = true := bne_iff_ne.mpr c28
             as_aux_lemma =>
              have H' := Aside0.mk H
              clear H
              go_wp2
              go_meet
              case rel => exact ⟨_, ((a0 == 199)), (by first | rfl | (simp; done) | (simp [*]; done)), H', ⟨by have := HJ3.out; have := HJ11.out; first | omega | exact Nat.le_refl _⟩, by repeat (first | exact Drawn0.refl _ | apply Drawn0.step)⟩
          case rest =>
           clear HC24
           try clear c1
           try clear c2
           try clear c2b0
           try clear c2b1
           try clear p2
           try clear c3
           try clear c3b0
           try clear c3b1
           try clear c5
           try clear c5b0
           try clear c5b1
           try clear c6
           try clear c6b0
           try clear c6b1
           try clear c7
           try clear c7b0
           try clear c7b1
           try clear c8
           try clear c8b0
           try clear c8b1
           try clear c9
           try clear c9b0
           try clear c9b1
           try clear c10
           try clear c10b0
           try clear c10b1
           try clear c11
           try clear c13
           try clear c13b0
           try clear c13b1
           try clear c14
           try clear c14b0
           try clear c15
           try clear c15b0
           try clear c16
           try clear c16b0
           try clear c16b1
           try clear c17
           try clear c17b0
           try clear c17b1
           try clear c18
           try clear c18b0
           try clear c18b1
           try clear c19
           try clear c19b0
           try clear c19b1
           try clear c20
           try clear c20b0
           try clear c20b1
           try clear c21
           try clear c21b0
           try clear c21b1
           try clear c22
           try clear c23
           try clear c23b0
           try clear c23b1
           try clear c25
           try clear c25b0
           try clear c26
           try clear c26b0
           try clear c27
           try clear c27b0
           try clear c27b1
           try clear c28
           try clear c28b0
           try clear c28b1
           try clear p2
           obtain ⟨kq, x66_23, rfl, HA, HJ23, ⟨mc23, rfl⟩⟩ := hcut
           cases kq with
           | zero => exact absurd HA.out (by simp [code_shape.j2])
           | succ kj23 =>
            have H := HA.out
            clear HA
            simp only [code_shape.j2] at H
            by_cases c29 : x66_23 = true
            ·subst c29
             have H1 : (some 5) = some r := by rw [if_pos rfl] at H; exact H
             clear H
             have H := H1
             clear H1
             as_aux_lemma =>
              obtain rfl := Option.some.inj H
              go_wp2
              go_ret
              exact ⟨by first | rfl | (simp; done) | (simp [*]; done), by repeat (first | exact Drawn0.refl _ | apply Drawn0.step)⟩
            ·replace c29 := Bool.eq_false_iff.mpr c29
             subst c29
             have H1 : (if a0 ≤ 10 then (code_shape.j3 kj23 a0 true) else (if a0 = 46 then (code_shape.j3 kj23 a0 true) else (if a0 = 47 then (code_shape.j3 kj23 a0 true) else (if a0 = 50 then (code_shape.j3 kj23 a0 true) else (if a0 = 79 then (code_shape.j3 kj23 a0 true) else (if a0 = 80 then (code_shape.j3 kj23 a0 true) else (if a0 = 83 then (code_shape.j3 kj23 a0 true) else (if a0 = 87 then (code_shape.j3 kj23 a0 true) else (if a0 ≥ 89 then (if a0 ≤ 90 then (code_shape.j3 kj23 a0 true) else (code_shape.j3 kj23 a0 (a0 == 95))) else (code_shape.j3 kj23 a0 (a0 == 95))))))))))) = some r := by rw [if_neg (show ¬ (false = true) by decide)] at H; exact H
             clear H
             have H := H1
             clear H1
             have HC30 := Aside0.mk H
             clear H
             go_upto_region 13 with (fail)
             go_cut [81] (fun v81 wc => ∃ (kq : Nat) (x81_29 : Bool), v81 = .bool x81_29 ∧ Aside0 (code_shape.j3 kq a0 x81_29 = some r) ∧ Aside0 (kq ≤ kj23) ∧ Drawn0 w wc)
             case first =>
              have H := HC30.out
              clear HC30
              by_cases c31 : a0 ≤ 10
              ·rw [if_pos c31] at H
               have c31b0 : decide (a0 ≤ 10) = true := decide_eq_true c31
               clear c31
               (first | rw [c31b0] | (simp only [i64_w, i32_w]; rw [c31b0]) | skip)
               as_aux_lemma =>
                have H' := Aside0.mk H
                clear H
                go_wp2
                go_meet
                case rel => exact ⟨_, (true), (by first | rfl | (simp; done) | (simp [*]; done)), H', ⟨by have := HJ3.out; have := HJ11.out; have := HJ23.out; first | omega | exact Nat.le_refl _⟩, by repeat (first | exact Drawn0.refl _ | apply Drawn0.step)⟩
              ·rw [if_neg c31] at H
               have c31b0 : decide (a0 ≤ 10) = false := decide_eq_false c31
               clear c31
               (first | rw [c31b0] | (simp only [i64_w, i32_w]; rw [c31b0]) | skip)
               by_cases c32 : a0 = 46
               ·rw [if_pos c32] at H
                have c32b0 : (a0 == 46) = true := beq_iff_eq.mpr c32
                have c32b1 : (a0 != 46) = false := bne_eq_false_iff_eq.mpr c32
                clear c32
                as_aux_lemma =>
                 have H' := Aside0.mk H
                 clear H
                 go_wp2
                 go_meet
                 case rel => exact ⟨_, (true), (by first | rfl | (simp; done) | (simp [*]; done)), H', ⟨by have := HJ3.out; have := HJ11.out; have := HJ23.out; first | omega | exact Nat.le_refl _⟩, by repeat (first | exact Drawn0.refl _ | apply Drawn0.step)⟩
               ·rw [if_neg c32] at H
                have c32b0 : (a0 == 46) = false := beq_eq_false_iff_ne.mpr c32
                have c32b1 : (a0 != 46) = true := bne_iff_ne.mpr c32
                by_cases c33 : a0 = 47
                ·rw [if_pos c33] at H
                 have c33b0 : (a0 == 47) = true := beq_iff_eq.mpr c33
                 have c33b1 : (a0 != 47) = false := bne_eq_false_iff_eq.mpr c33
                 clear c33
                 as_aux_lemma =>
                  have H' := Aside0.mk H
                  clear H
                  go_wp2
                  go_meet
                  case rel => exact ⟨_, (true), (by first | rfl | (simp; done) | (simp [*]; done)), H', ⟨by have := HJ3.out; have := HJ11.out; have := HJ23.out; first | omega | exact Nat.le_refl _⟩, by repeat (first | exact Drawn0.refl _ | apply Drawn0.step)⟩
                ·rw [if_neg c33] at H
                 have c33b0 : (a0 == 47) = false := beq_eq_false_iff_ne.mpr c33
                 have c33b1 : (a0 != 47) = true := bne_iff_ne.mpr c33
                 by_cases c34 : a0 = 50
                 ·rw [if_pos c34] at H
                  have c34b0 : (a0 == 50) = true := beq_iff_eq.mpr c34
                  have c34b1 : (a0 != 50) = false := bne_eq_false_iff_eq.mpr c34
                  clear c34
                  as_aux_lemma =>
                   have H' := Aside0.mk H
                   clear H
                   go_wp2
                   go_meet
                   case rel => exact ⟨_, (true), (by first | rfl | (simp; done) | (simp [*]; done)), H', ⟨by have := HJ3.out; have := HJ11.out; have := HJ23.out; first | omega | exact Nat.le_refl _⟩, by repeat (first | exact Drawn0.refl _ | apply Drawn0.step)⟩
                 ·rw [if_neg c34] at H
                  have c34b0 : (a0 == 50) = false := beq_eq_false_iff_ne.mpr c34
                  have c34b1 : (a0 != 50) = true := bne_iff_ne.mpr c34
                  by_cases c35 : a0 = 79
                  ·rw [if_pos c35] at H
                   have c35b0 : (a0 == 79) = true := beq_iff_eq.mpr c35
                   have c35b1 : (a0 != 79) = false := bne_eq_false_iff_eq.mpr c35
                   clear c35
                   as_aux_lemma =>
                    have H' := Aside0.mk H
                    clear H
                    go_wp2
                    go_meet
                    case rel => exact ⟨_, (true), (by first | rfl | (simp; done) | (simp [*]; done)), H', ⟨by have := HJ3.out; have := HJ11.out; have := HJ23.out; first | omega | exact Nat.le_refl _⟩, by repeat (first | exact Drawn0.refl _ | apply Drawn0.step)⟩
                  ·rw [if_neg c35] at H
                   have c35b0 : (a0 == 79) = false := beq_eq_false_iff_ne.mpr c35
                   have c35b1 : (a0 != 79) = true := bne_iff_ne.mpr c35
                   by_cases c36 : a0 = 80
                   ·rw [if_pos c36] at H
                    have c36b0 : (a0 == 80) = true := beq_iff_eq.mpr c36
                    have c36b1 : (a0 != 80) = false := bne_eq_false_iff_eq.mpr c36
                    clear c36
                    as_aux_lemma =>
                     have H' := Aside0.mk H
                     clear H
                     go_wp2
                     go_meet
                     case rel => exact ⟨_, (true), (by first | rfl | (simp; done) | (simp [*]; done)), H', ⟨by have := HJ3.out; have := HJ11.out; have := HJ23.out; first | omega | exact Nat.le_refl _⟩, by repeat (first | exact Drawn0.refl _ | apply Drawn0.step)⟩
                   ·rw [if_neg c36] at H
                    have c36b0 : (a0 == 80) = false := beq_eq_false_iff_ne.mpr c36
                    have c36b1 : (a0 != 80) = true := bne_iff_ne.mpr c36
                    by_cases c37 : a0 = 83
                    ·rw [if_pos c37] at H
                     have c37b0 : (a0 == 83) = true := beq_iff_eq.mpr c37
                     have c37b1 : (a0 != 83) = false := bne_eq_false_iff_eq.mpr c37
                     clear c37
                     as_aux_lemma =>
                      have H' := Aside0.mk H
                      clear H
                      go_wp2
                      go_meet
                      case rel => exact ⟨_, (true), (by first | rfl | (simp; done) | (simp [*]; done)), H', ⟨by have := HJ3.out; have := HJ11.out; have := HJ23.out; first | omega | exact Nat.le_refl _⟩, by repeat (first | exact Drawn0.refl _ | apply Drawn0.step)⟩
                    ·rw [if_neg c37] at H
                     have c37b0 : (a0 == 83) = false := beq_eq_false_iff_ne.mpr c37
                     have c37b1 : (a0 != 83) = true := bne_iff_ne.mpr c37
                     by_cases c38 : a0 = 87
                     ·rw [if_pos c38] at H
                      have c38b0 : (a0 == 87) = true := beq_iff_eq.mpr c38
                      have c38b1 : (a0 != 87) = false := bne_eq_false_iff_eq.mpr c38
                      clear c38
                      as_aux_lemma =>
                       have H' := Aside0.mk H
                       clear H
                       go_wp2
                       go_meet
                       case rel => exact ⟨_, (true), (by first | rfl | (simp; done) | (simp [*]; done)), H', ⟨by have := HJ3.out; have := HJ11.out; have := HJ23.out; first | omega | exact Nat.le_refl _⟩, by repeat (first | exact Drawn0.refl _ | apply Drawn0.step)⟩
                     ·rw [if_neg c38] at H
                      have c38b0 : (a0 == 87) = false := beq_eq_false_iff_ne.mpr c38
                      have c38b1 : (a0 != 87) = true := bne_iff_ne.mpr c38
                      by_cases c39 : a0 ≥ 89
                      ·rw [if_pos c39] at H
                       have c39b0 : decide (89 ≤ a0) = true := decide_eq_true c39
                       clear c39
                       by_cases c40 : a0 ≤ 90
                       ·rw [if_pos c40] at H
                        have c40b0 : decide (a0 ≤ 90) = true := decide_eq_true c40
                        clear c40
                        as_aux_lemma =>
                         have H' := Aside0.mk H
                         clear H
                         go_wp2
                         go_meet
                         case rel => exact ⟨_, (true), (by first | rfl | (simp; done) | (simp [*]; done)), H', ⟨by have := HJ3.out; have := HJ11.out; have := HJ23.out; first | omega | exact Nat.le_refl _⟩, by repeat (first | exact Drawn0.refl _ | apply Drawn0.step)⟩
                       ·rw [if_neg c40] at H
                        have c40b0 : decide (a0 ≤ 90) = false := decide_eq_false c40
                        clear c40
                        as_aux_lemma =>
                         have H' := Aside0.mk H
                         clear H
                         go_wp2
                         go_meet
                         case rel => exact ⟨_, ((a0 == 95)), (by first | rfl | (simp; done) | (simp [*]; done)), H', ⟨by have := HJ3.out; have := HJ11.out; have := HJ23.out; first | omega | exact Nat.le_refl _⟩, by repeat (first | exact Drawn0.refl _ | apply Drawn0.step)⟩
                      ·rw [if_neg c39] at H
                       have c39b0 : decide (89 ≤ a0) = false := decide_eq_false c39
                       clear c39
                       as_aux_lemma =>
                        have H' := Aside0.mk H
                        clear H
                        go_wp2
                        go_meet
                        case rel => exact ⟨_, ((a0 == 95)), (by first | rfl | (simp; done) | (simp [*]; done)), H', ⟨by have := HJ3.out; have := HJ11.out; have := HJ23.out; first | omega | exact Nat.le_refl _⟩, by repeat (first | exact Drawn0.refl _ | apply Drawn0.step)⟩
             case rest =>
              clear HC30
              try clear c1
              try clear c2
              try clear c2b0
              try clear c2b1
              try clear p2
              try clear c3
              try clear c3b0
              try clear c3b1
              try clear c4
              try clear c5
              try clear c5b0
              try clear c5b1
              try clear c6
              try clear c6b0
              try clear c6b1
              try clear c7
              try clear c7b0
              try clear c7b1
              try clear c8
              try clear c8b0
              try clear c8b1
              try clear c9
              try clear c9b0
              try clear c9b1
              try clear c10
              try clear c10b0
              try clear c10b1
              try clear c11
              try clear c13
              try clear c13b0
              try clear c13b1
              try clear c14
              try clear c14b0
              try clear c15
              try clear c15b0
              try clear c16
              try clear c16b0
              try clear c16b1
              try clear c17
              try clear c17b0
              try clear c17b1
              try clear c18
              try clear c18b0
              try clear c18b1
              try clear c19
              try clear c19b0
              try clear c19b1
              try clear c20
              try clear c20b0
              try clear c20b1
              try clear c21
              try clear c21b0
              try clear c21b1
              try clear c22
              try clear c23
              try clear c23b0
              try clear c23b1
              try clear c25
              try clear c25b0
              try clear c26
              try clear c26b0
              try clear c27
              try clear c27b0
              try clear c27b1
              try clear c28
              try clear c28b0
              try clear c28b1
              try clear c29
              try clear c31
              try clear c31b0
              try clear c32
              try clear c32b0
              try clear c32b1
              try clear c33
              try clear c33b0
              try clear c33b1
              try clear c34
              try clear c34b0
              try clear c34b1
              try clear c35
              try clear c35b0
              try clear c35b1
              try clear c36
              try clear c36b0
              try clear c36b1
              try clear c37
              try clear c37b0
              try clear c37b1
              try clear c38
              try clear c38b0
              try clear c38b1
              try clear c39
              try clear c39b0
              try clear c40
              try clear c40b0
              try clear p2
              obtain ⟨kq, x81_29, rfl, HA, HJ29, ⟨mc29, rfl⟩⟩ := hcut
              cases kq with
              | zero => exact absurd HA.out (by simp [code_shape.j3])
              | succ kj29 =>
               have H := HA.out
               clear HA
               simp only [code_shape.j3] at H
               by_cases c41 : x81_29 = true
               ·subst c41
                have H1 : (some 0) = some r := by rw [if_pos rfl] at H; exact H
                clear H
                have H := H1
                clear H1
                as_aux_lemma =>
                 obtain rfl := Option.some.inj H
                 go_wp2
                 go_ret
                 exact ⟨by first | rfl | (simp; done) | (simp [*]; done), by repeat (first | exact Drawn0.refl _ | apply Drawn0.step)⟩
               ·replace c41 := Bool.eq_false_iff.mpr c41
                subst c41
                have H1 : (if a0 ≥ 96 then (code_shape.j4 kj29 a0 (decide (a0 ≤ 133))) else (code_shape.j4 kj29 a0 false)) = some r := by rw [if_neg (show ¬ (false = true) by decide)] at H; exact H
                clear H
                have H := H1
                clear H1
                have HC42 := Aside0.mk H
                clear H
                go_upto_region 15 with (fail)
                go_cut [124] (fun v124 wc => ∃ (kq : Nat) (x124_41 : Bool), v124 = .bool x124_41 ∧ Aside0 (code_shape.j4 kq a0 x124_41 = some r) ∧ Aside0 (kq ≤ kj29) ∧ Drawn0 w wc)
                case first =>
                 have H := HC42.out
                 clear HC42
                 by_cases c43 : a0 ≥ 96
                 ·rw [if_pos c43] at H
                  have c43b0 : decide (96 ≤ a0) = true := decide_eq_true c43
                  clear c43
                  (first | rw [c43b0] | (simp only [i64_w, i32_w]; rw [c43b0]) | skip)
                  as_aux_lemma =>
                   have H' := Aside0.mk H
                   clear H
                   go_wp2
                   go_meet
                   case rel => exact ⟨_, (decide (a0 ≤ 133)), (by first | rfl | (simp; done) | (simp [*]; done)), H', ⟨by have := HJ3.out; have := HJ11.out; have := HJ23.out; have := HJ29.out; first | omega | exact Nat.le_refl _⟩, by repeat (first | exact Drawn0.refl _ | apply Drawn0.step)⟩
                 ·rw [if_neg c43] at H
                  have c43b0 : decide (96 ≤ a0) = false := decide_eq_false c43
                  clear c43
                  (first | rw [c43b0] | (simp only [i64_w, i32_w]; rw [c43b0]) | skip)
                  as_aux_lemma =>
                   have H' := Aside0.mk H
                   clear H
                   go_wp2
                   go_meet
                   case rel => exact ⟨_, (false), (by first | rfl | (simp; done) | (simp [*]; done)), H', ⟨by have := HJ3.out; have := HJ11.out; have := HJ23.out; have := HJ29.out; first | omega | exact Nat.le_refl _⟩, by repeat (first | exact Drawn0.refl _ | apply Drawn0.step)⟩
                case rest =>
                 clear HC42
                 try clear c1
                 try clear c2
                 try clear c2b0
                 try clear c2b1
                 try clear p2
                 try clear c3
                 try clear c3b0
                 try clear c3b1
                 try clear c4
                 try clear c5
                 try clear c5b0
                 try clear c5b1
                 try clear c6
                 try clear c6b0
                 try clear c6b1
                 try clear c7
                 try clear c7b0
                 try clear c7b1
                 try clear c8
                 try clear c8b0
                 try clear c8b1
                 try clear c9
                 try clear c9b0
                 try clear c9b1
                 try clear c10
                 try clear c10b0
                 try clear c10b1
                 try clear c11
                 try clear c13
                 try clear c13b0
                 try clear c13b1
                 try clear c14
                 try clear c14b0
                 try clear c15
                 try clear c15b0
                 try clear c16
                 try clear c16b0
                 try clear c16b1
                 try clear c17
                 try clear c17b0
                 try clear c17b1
                 try clear c18
                 try clear c18b0
                 try clear c18b1
                 try clear c19
                 try clear c19b0
                 try clear c19b1
                 try clear c20
                 try clear c20b0
                 try clear c20b1
                 try clear c21
                 try clear c21b0
                 try clear c21b1
                 try clear c22
                 try clear c23
                 try clear c23b0
                 try clear c23b1
                 try clear c25
                 try clear c25b0
                 try clear c26
                 try clear c26b0
                 try clear c27
                 try clear c27b0
                 try clear c27b1
                 try clear c28
                 try clear c28b0
                 try clear c28b1
                 try clear c29
                 try clear c31
                 try clear c31b0
                 try clear c32
                 try clear c32b0
                 try clear c32b1
                 try clear c33
                 try clear c33b0
                 try clear c33b1
                 try clear c34
                 try clear c34b0
                 try clear c34b1
                 try clear c35
                 try clear c35b0
                 try clear c35b1
                 try clear c36
                 try clear c36b0
                 try clear c36b1
                 try clear c37
                 try clear c37b0
                 try clear c37b1
                 try clear c38
                 try clear c38b0
                 try clear c38b1
                 try clear c39
                 try clear c39b0
                 try clear c40
                 try clear c40b0
                 try clear c41
                 try clear c43
                 try clear c43b0
                 try clear p2
                 obtain ⟨kq, x124_41, rfl, HA, HJ41, ⟨mc41, rfl⟩⟩ := hcut
                 cases kq with
                 | zero => exact absurd HA.out (by simp [code_shape.j4])
                 | succ kj41 =>
                  have H := HA.out
                  clear HA
                  simp only [code_shape.j4] at H
                  by_cases c44 : x124_41 = true
                  ·subst c44
                   have H1 : ((code_arithmetic.f a0).bind fun t101 => (some t101)) = some r := by rw [if_pos rfl] at H; exact H
                   clear H
                   have H := H1
                   clear H1
                   replace H := Option.bind_eq_some_iff.mp H
                   obtain ⟨t101, A450, H⟩ := H
                   replace H : (some t101) = some r := H
                   have A45 := Aside0.mk A450
                   clear A450
                   as_aux_lemma =>
                    obtain rfl := Option.some.inj H
                    go_wp2_with (first | ((with_reducible refine gate_callee (f := 26) rfl ?_); refine goesL_ (some 132) rfl rfl Try.func26 (by kernel_rfl) rfl #[.int .i64 a0] rfl (by (try simp only [List.map_toArray, List.map_cons, List.map_nil]); first | done | rfl | (simp only [List.length_drop, List.length_take]; rfl)) ?_; (with_reducible refine (code_arithmetic.calls a0 t101 _ A45.out).mono ?_); rintro e w' ⟨rfl, ⟨nd, rfl⟩⟩; refine ⟨_, rfl, ?_⟩))
                    go_ret
                    exact ⟨by first | rfl | (simp; done) | (simp [*]; done), by repeat (first | exact Drawn0.refl _ | apply Drawn0.step)⟩
                  ·replace c44 := Bool.eq_false_iff.mpr c44
                   subst c44
                   have H1 : (if a0 = 136 then (some 0) else (if a0 ≥ 145 then (if a0 ≤ 148 then (some 0) else (if a0 = 172 then (some 0) else (if a0 = 173 then (some 0) else (if a0 = 176 then (some 0) else (if a0 = 177 then (some 0) else (if a0 = 190 then (some 0) else (if a0 = 191 then (some 0) else (some (-1))))))))) else (if a0 = 172 then (some 0) else (if a0 = 173 then (some 0) else (if a0 = 176 then (some 0) else (if a0 = 177 then (some 0) else (if a0 = 190 then (some 0) else (if a0 = 191 then (some 0) else (some (-1)))))))))) = some r := by rw [if_neg (show ¬ (false = true) by decide)] at H; exact H
                   clear H
                   have H := H1
                   clear H1
                   by_cases c46 : a0 = 136
                   ·rw [if_pos c46] at H
                    have c46b0 : (a0 == 136) = true := beq_iff_eq.mpr c46
                    have c46b1 : (a0 != 136) = false := bne_eq_false_iff_eq.mpr c46
                    clear c46
                    as_aux_lemma =>
                     obtain rfl := Option.some.inj H
                     go_wp2
                     go_ret
                     exact ⟨by first | rfl | (simp; done) | (simp [*]; done), by repeat (first | exact Drawn0.refl _ | apply Drawn0.step)⟩
                   ·rw [if_neg c46] at H
                    have c46b0 : (a0 == 136) = false := beq_eq_false_iff_ne.mpr c46
                    have c46b1 : (a0 != 136) = true := bne_iff_ne.mpr c46
                    by_cases c47 : a0 ≥ 145
                    ·rw [if_pos c47] at H
                     have c47b0 : decide (145 ≤ a0) = true := decide_eq_true c47
                     clear c47
                     by_cases c48 : a0 ≤ 148
                     ·rw [if_pos c48] at H
                      have c48b0 : decide (a0 ≤ 148) = true := decide_eq_true c48
                      clear c48
                      as_aux_lemma =>
                       obtain rfl := Option.some.inj H
                       go_wp2
                       go_ret
                       exact ⟨by first | rfl | (simp; done) | (simp [*]; done), by repeat (first | exact Drawn0.refl _ | apply Drawn0.step)⟩
                     ·rw [if_neg c48] at H
                      have c48b0 : decide (a0 ≤ 148) = false := decide_eq_false c48
                      clear c48
                      by_cases c49 : a0 = 172
                      ·rw [if_pos c49] at H
                       have c49b0 : (a0 == 172) = true := beq_iff_eq.mpr c49
                       have c49b1 : (a0 != 172) = false := bne_eq_false_iff_eq.mpr c49
                       clear c49
                       as_aux_lemma =>
                        obtain rfl := Option.some.inj H
                        go_wp2
                        go_ret
                        exact ⟨by first | rfl | (simp; done) | (simp [*]; done), by repeat (first | exact Drawn0.refl _ | apply Drawn0.step)⟩
                      ·rw [if_neg c49] at H
                       have c49b0 : (a0 == 172) = false := beq_eq_false_iff_ne.mpr c49
                       have c49b1 : (a0 != 172) = true := bne_iff_ne.mpr c49
                       by_cases c50 : a0 = 173
                       ·rw [if_pos c50] at H
                        have c50b0 : (a0 == 173) = true := beq_iff_eq.mpr c50
                        have c50b1 : (a0 != 173) = false := bne_eq_false_iff_eq.mpr c50
                        clear c50
                        as_aux_lemma =>
                         obtain rfl := Option.some.inj H
                         go_wp2
                         go_ret
                         exact ⟨by first | rfl | (simp; done) | (simp [*]; done), by repeat (first | exact Drawn0.refl _ | apply Drawn0.step)⟩
                       ·rw [if_neg c50] at H
                        have c50b0 : (a0 == 173) = false := beq_eq_false_iff_ne.mpr c50
                        have c50b1 : (a0 != 173) = true := bne_iff_ne.mpr c50
                        by_cases c51 : a0 = 176
                        ·rw [if_pos c51] at H
                         have c51b0 : (a0 == 176) = true := beq_iff_eq.mpr c51
                         have c51b1 : (a0 != 176) = false := bne_eq_false_iff_eq.mpr c51
                         clear c51
                         as_aux_lemma =>
                          obtain rfl := Option.some.inj H
                          go_wp2
                          go_ret
                          exact ⟨by first | rfl | (simp; done) | (simp [*]; done), by repeat (first | exact Drawn0.refl _ | apply Drawn0.step)⟩
                        ·rw [if_neg c51] at H
                         have c51b0 : (a0 == 176) = false := beq_eq_false_iff_ne.mpr c51
                         have c51b1 : (a0 != 176) = true := bne_iff_ne.mpr c51
                         by_cases c52 : a0 = 177
                         ·rw [if_pos c52] at H
                          have c52b0 : (a0 == 177) = true := beq_iff_eq.mpr c52
                          have c52b1 : (a0 != 177) = false := bne_eq_false_iff_eq.mpr c52
                          clear c52
                          as_aux_lemma =>
                           obtain rfl := Option.some.inj H
                           go_wp2
                           go_ret
                           exact ⟨by first | rfl | (simp; done) | (simp [*]; done), by repeat (first | exact Drawn0.refl _ | apply Drawn0.step)⟩
                         ·rw [if_neg c52] at H
                          have c52b0 : (a0 == 177) = false := beq_eq_false_iff_ne.mpr c52
                          have c52b1 : (a0 != 177) = true := bne_iff_ne.mpr c52
                          by_cases c53 : a0 = 190
                          ·rw [if_pos c53] at H
                           have c53b0 : (a0 == 190) = true := beq_iff_eq.mpr c53
                           have c53b1 : (a0 != 190) = false := bne_eq_false_iff_eq.mpr c53
                           clear c53
                           as_aux_lemma =>
                            obtain rfl := Option.some.inj H
                            go_wp2
                            go_ret
                            exact ⟨by first | rfl | (simp; done) | (simp [*]; done), by repeat (first | exact Drawn0.refl _ | apply Drawn0.step)⟩
                          ·rw [if_neg c53] at H
                           have c53b0 : (a0 == 190) = false := beq_eq_false_iff_ne.mpr c53
                           have c53b1 : (a0 != 190) = true := bne_iff_ne.mpr c53
                           by_cases c54 : a0 = 191
                           ·rw [if_pos c54] at H
                            have c54b0 : (a0 == 191) = true := beq_iff_eq.mpr c54
                            have c54b1 : (a0 != 191) = false := bne_eq_false_iff_eq.mpr c54
                            clear c54
                            as_aux_lemma =>
                             obtain rfl := Option.some.inj H
                             go_wp2
                             go_ret
                             exact ⟨by first | rfl | (simp; done) | (simp [*]; done), by repeat (first | exact Drawn0.refl _ | apply Drawn0.step)⟩
                           ·rw [if_neg c54] at H
                            have c54b0 : (a0 == 191) = false := beq_eq_false_iff_ne.mpr c54
                            have c54b1 : (a0 != 191) = true := bne_iff_ne.mpr c54
                            as_aux_lemma =>
                             obtain rfl := Option.some.inj H
                             go_wp2
                             go_ret
                             exact ⟨by first | rfl | (simp; done) | (simp [*]; done), by repeat (first | exact Drawn0.refl _ | apply Drawn0.step)⟩
                    ·rw [if_neg c47] at H
                     have c47b0 : decide (145 ≤ a0) = false := decide_eq_false c47
                     clear c47
                     by_cases c55 : a0 = 172
                     ·rw [if_pos c55] at H
                      have c55b0 : (a0 == 172) = true := beq_iff_eq.mpr c55
                      have c55b1 : (a0 != 172) = false := bne_eq_false_iff_eq.mpr c55
                      clear c55
                      as_aux_lemma =>
                       obtain rfl := Option.some.inj H
                       go_wp2
                       go_ret
                       exact ⟨by first | rfl | (simp; done) | (simp [*]; done), by repeat (first | exact Drawn0.refl _ | apply Drawn0.step)⟩
                     ·rw [if_neg c55] at H
                      have c55b0 : (a0 == 172) = false := beq_eq_false_iff_ne.mpr c55
                      have c55b1 : (a0 != 172) = true := bne_iff_ne.mpr c55
                      by_cases c56 : a0 = 173
                      ·rw [if_pos c56] at H
                       have c56b0 : (a0 == 173) = true := beq_iff_eq.mpr c56
                       have c56b1 : (a0 != 173) = false := bne_eq_false_iff_eq.mpr c56
                       clear c56
                       as_aux_lemma =>
                        obtain rfl := Option.some.inj H
                        go_wp2
                        go_ret
                        exact ⟨by first | rfl | (simp; done) | (simp [*]; done), by repeat (first | exact Drawn0.refl _ | apply Drawn0.step)⟩
                      ·rw [if_neg c56] at H
                       have c56b0 : (a0 == 173) = false := beq_eq_false_iff_ne.mpr c56
                       have c56b1 : (a0 != 173) = true := bne_iff_ne.mpr c56
                       by_cases c57 : a0 = 176
                       ·rw [if_pos c57] at H
                        have c57b0 : (a0 == 176) = true := beq_iff_eq.mpr c57
                        have c57b1 : (a0 != 176) = false := bne_eq_false_iff_eq.mpr c57
                        clear c57
                        as_aux_lemma =>
                         obtain rfl := Option.some.inj H
                         go_wp2
                         go_ret
                         exact ⟨by first | rfl | (simp; done) | (simp [*]; done), by repeat (first | exact Drawn0.refl _ | apply Drawn0.step)⟩
                       ·rw [if_neg c57] at H
                        have c57b0 : (a0 == 176) = false := beq_eq_false_iff_ne.mpr c57
                        have c57b1 : (a0 != 176) = true := bne_iff_ne.mpr c57
                        by_cases c58 : a0 = 177
                        ·rw [if_pos c58] at H
                         have c58b0 : (a0 == 177) = true := beq_iff_eq.mpr c58
                         have c58b1 : (a0 != 177) = false := bne_eq_false_iff_eq.mpr c58
                         clear c58
                         as_aux_lemma =>
                          obtain rfl := Option.some.inj H
                          go_wp2
                          go_ret
                          exact ⟨by first | rfl | (simp; done) | (simp [*]; done), by repeat (first | exact Drawn0.refl _ | apply Drawn0.step)⟩
                        ·rw [if_neg c58] at H
                         have c58b0 : (a0 == 177) = false := beq_eq_false_iff_ne.mpr c58
                         have c58b1 : (a0 != 177) = true := bne_iff_ne.mpr c58
                         by_cases c59 : a0 = 190
                         ·rw [if_pos c59] at H
                          have c59b0 : (a0 == 190) = true := beq_iff_eq.mpr c59
                          have c59b1 : (a0 != 190) = false := bne_eq_false_iff_eq.mpr c59
                          clear c59
                          as_aux_lemma =>
                           obtain rfl := Option.some.inj H
                           go_wp2
                           go_ret
                           exact ⟨by first | rfl | (simp; done) | (simp [*]; done), by repeat (first | exact Drawn0.refl _ | apply Drawn0.step)⟩
                         ·rw [if_neg c59] at H
                          have c59b0 : (a0 == 190) = false := beq_eq_false_iff_ne.mpr c59
                          have c59b1 : (a0 != 190) = true := bne_iff_ne.mpr c59
                          by_cases c60 : a0 = 191
                          ·rw [if_pos c60] at H
                           have c60b0 : (a0 == 191) = true := beq_iff_eq.mpr c60
                           have c60b1 : (a0 != 191) = false := bne_eq_false_iff_eq.mpr c60
                           clear c60
                           as_aux_lemma =>
                            obtain rfl := Option.some.inj H
                            go_wp2
                            go_ret
                            exact ⟨by first | rfl | (simp; done) | (simp [*]; done), by repeat (first | exact Drawn0.refl _ | apply Drawn0.step)⟩
                          ·rw [if_neg c60] at H
                           have c60b0 : (a0 == 191) = false := beq_eq_false_iff_ne.mpr c60
                           have c60b1 : (a0 != 191) = true := bne_iff_ne.mpr c60
                           as_aux_lemma =>
                            obtain rfl := Option.some.inj H
                            go_wp2
                            go_ret
                            exact ⟨by first | rfl | (simp; done) | (simp [*]; done), by repeat (first | exact Drawn0.refl _ | apply Drawn0.step)⟩

end Go.Proofs.Ytbicilgcmopidaa.PAll
