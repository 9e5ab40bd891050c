-- Printed by this session's own program wip/tools/pp.py (the kit's printer with hooks of the session's); not a text of print.sh.
import Derived.Test.YtbbogkhidaekoaaPAllx0
import Derived.Test.YtbbogkhidaekoaaPAllx1
import Derived.Test.YtbbogkhidaekoaaPAllx2
import Derived.Test.YtbbogkhidaekoaaPAllx3
import Derived.Test.YtbbogkhidaekoaaPAllx6
namespace Go.Proofs.Ytbbogkhidaekoaa.PAll
open Go.RowKit Go.Proofs.YtbbogkhidaekoaaW.PrintWords Go.Proofs.YtbbogkhidaekoaaW.PrintLast Go.Proofs.YtbbogkhidaekoaaW.PrintMore
attribute [local go_sem] max2_int min2_int max_two min_two max_three min_three max_four min_four   -- for this text's walks alone
set_option linter.unusedVariables false
set_option linter.unusedSimpArgs false

/-! ### regletref02_Type: function 25 -/
mutual
def regletref02_Type.j1 : Nat → ByteArray → Int → Option (Bool)
 | 0, _, _ => none
 | k + 1, x0, x3 => if 0 ≤ x3 then (if x3 ≤ (x0.size : Int) then (if x3 > 8 then (some false) else (if (x0.extract (x3 : Int).toNat x0.size).toList = ([73] : List UInt8) then (some true) else (if (x0.extract (x3 : Int).toNat x0.size).toList = ([74] : List UInt8) then (some true) else (if ((x0.extract (x3 : Int).toNat x0.size).size : Int) > 2 then (if 0 < ((x0.extract (x3 : Int).toNat x0.size).size : Int) then (if (bt (x0.extract (x3 : Int).toNat x0.size) 0) = 76 then (if 0 ≤ (wrap64 (((x0.extract (x3 : Int).toNat x0.size).size : Int) - 1)) then (if (wrap64 (((x0.extract (x3 : Int).toNat x0.size).size : Int) - 1)) < ((x0.extract (x3 : Int).toNat x0.size).size : Int) then (if (bt (x0.extract (x3 : Int).toNat x0.size) (wrap64 (((x0.extract (x3 : Int).toNat x0.size).size : Int) - 1))) = 59 then (if 1 ≤ (wrap64 (((x0.extract (x3 : Int).toNat x0.size).size : Int) - 1)) then (if (wrap64 (((x0.extract (x3 : Int).toNat x0.size).size : Int) - 1)) ≤ ((x0.extract (x3 : Int).toNat x0.size).size : Int) then ((regletref02_Name.f k ((x0.extract (x3 : Int).toNat x0.size).extract 1 ((wrap64 (((x0.extract (x3 : Int).toNat x0.size).size : Int) - 1)) : Int).toNat) false).bind fun t160 => (some t160)) else (none)) else (none)) else (some false)) else (none)) else (none)) else (some false)) else (none)) else (some false))))) else (none)) else (none)
def regletref02_Type.l0 : Nat → ByteArray → Int → Option (Bool)
 | 0, _, _ => none
 | k + 1, x0, x3 => if x3 < (x0.size : Int) then (if 0 ≤ x3 then (if (bt x0 x3) = 91 then (regletref02_Type.l0 k x0 (wrap64 (x3 + 1))) else (regletref02_Type.j1 k x0 x3)) else (none)) else (regletref02_Type.j1 k x0 x3)
end
def regletref02_Type.f (k : Nat) (a0 : ByteArray) : Option (Bool) := regletref02_Type.l0 k a0 0
theorem regletref02_Type.mono_l : ∀ k, (∀ y0 y1, LeO (regletref02_Type.j1 k y0 y1) (regletref02_Type.j1 (k + 1) y0 y1)) ∧ (∀ y0 y1, LeO (regletref02_Type.l0 k y0 y1) (regletref02_Type.l0 (k + 1) y0 y1))
 | 0 => ⟨fun _ _ r h => by simp [regletref02_Type.j1] at h, fun _ _ r h => by simp [regletref02_Type.l0] at h⟩
 | k + 1 => by
  obtain ⟨ih0, ih1⟩ := regletref02_Type.mono_l k
  refine ⟨?_, ?_⟩
  ·intro y0 y1
   unfold regletref02_Type.j1
   repeat' first
   | (with_reducible exact ih0 _ _)
   | (with_reducible exact ih1 _ _)
   | (with_reducible exact regletref02_Name.mono _ _ _)
   | (with_reducible exact LeO.refl _)
   | (with_reducible exact LeO.none _)
   | (with_reducible refine LeO.ite ?_ ?_)
   | (with_reducible refine LeO.bind ?_ (fun _ => ?_))
   | exact ih0 _ _
   | exact ih1 _ _
   | exact regletref02_Name.mono _ _ _
   | exact LeO.none _
   | refine LeO.ite ?_ ?_
   | refine LeO.bind ?_ (fun _ => ?_)
  ·intro y0 y1
   unfold regletref02_Type.l0
   repeat' first
   | (with_reducible exact ih0 _ _)
   | (with_reducible exact ih1 _ _)
   | (with_reducible exact regletref02_Name.mono _ _ _)
   | (with_reducible exact LeO.refl _)
   | (with_reducible exact LeO.none _)
   | (with_reducible refine LeO.ite ?_ ?_)
   | (with_reducible refine LeO.bind ?_ (fun _ => ?_))
   | exact ih0 _ _
   | exact ih1 _ _
   | exact regletref02_Name.mono _ _ _
   | exact LeO.none _
   | refine LeO.ite ?_ ?_
   | refine LeO.bind ?_ (fun _ => ?_)
theorem regletref02_Type.mono : ∀ a0 k, LeO (regletref02_Type.f k a0) (regletref02_Type.f (k + 1) a0) := by
 intro a0 k
 obtain ⟨ih0, ih1⟩ := regletref02_Type.mono_l k
 unfold regletref02_Type.f
 repeat' first
   | (with_reducible exact ih0 _ _)
   | (with_reducible exact ih1 _ _)
   | (with_reducible exact regletref02_Name.mono _ _ _)
   | (with_reducible exact LeO.refl _)
   | (with_reducible exact LeO.none _)
   | (with_reducible refine LeO.ite ?_ ?_)
   | (with_reducible refine LeO.bind ?_ (fun _ => ?_))
   | exact ih0 _ _
   | exact ih1 _ _
   | exact regletref02_Name.mono _ _ _
   | exact LeO.none _
   | refine LeO.ite ?_ ?_
   | refine LeO.bind ?_ (fun _ => ?_)
set_option maxHeartbeats 8000000 in
set_option maxRecDepth 100000 in
theorem regletref02_Type.calls (k : Nat) (a0 : ByteArray) (r : Bool) (w : World) (h : regletref02_Type.f k a0 = some r) :
  Calls Try.prog 25 #[.string a0] w fun e w' => e = .returned (.bool r) ∧ Drawn0 w w' := by
 have H : (regletref02_Type.l0 k a0 0) = some r := h
 clear h
 have HC2 := Aside0.mk H
 clear H
 go_enter Try.func25, Try.ntmps25
 go_upto_block 0 with (fail)
 go_cut [3] (fun v3 wc => ∃ (kq : Nat) (x3_1 : Int), v3 = .int .i64 x3_1 ∧ Aside0 (regletref02_Type.j1 kq a0 x3_1 = some r) ∧ Aside0 (kq ≤ k) ∧ Drawn0 w wc)
 case first =>
  have H := HC2.out
  clear HC2
  have H' := Aside0.mk H
  clear H
  go_wp2
  go_loopg [3] k (fun kq v3 w' => ∃ (x3_1 : Int), v3 = .int .i64 x3_1 ∧ Aside0 (regletref02_Type.l0 kq a0 x3_1 = some r) ∧ Aside0 (kq ≤ k) ∧ Drawn0 w w')
  case atStart => exact ⟨(0), (by first | rfl | (simp; done) | (simp [*]; done)), H', ⟨Nat.le_refl _⟩, by repeat (first | exact Drawn0.refl _ | apply Drawn0.step)⟩
  case round =>
   clear H'
   try clear c2
   try clear p2
   obtain ⟨x3_1, rfl, HA, HK1, ⟨m1, rfl⟩⟩ := hrel
   cases gk with
   | zero => exact absurd HA.out (by simp [regletref02_Type.l0])
   | succ k1 =>
    have H := HA.out
    clear HA
    simp only [regletref02_Type.l0] at H
    by_cases c3 : x3_1 < (a0.size : Int)
    ·rw [if_pos c3] at H
     have c3b0 : decide (x3_1 < (a0.size : Int)) = true := decide_eq_true c3
     clear c3
     (first | rw [c3b0] | (simp only [i64_w, i32_w]; rw [c3b0]) | skip)
     by_cases c4 : 0 ≤ x3_1
     ·rw [if_pos c4] at H
      have c4b0 : decide (0 ≤ x3_1) = true := decide_eq_true c4
      clear c4
      by_cases c6 : (bt a0 x3_1) = 91
      ·rw [if_pos c6] at H
       have c6b0 : ((bt a0 x3_1) == 91) = true := beq_iff_eq.mpr c6
       have c6b1 : ((bt a0 x3_1) != 91) = false := bne_eq_false_iff_eq.mpr c6
       clear c6
       have H' := Aside0.mk H
       clear H
       have p5 : 0 ≤ (x3_1 : Int) := of_decide_eq_true (by first | (with_reducible assumption) | assumption)
       have q5 : x3_1 < (a0.size : Int) := of_decide_eq_true (by first | (with_reducible assumption) | assumption)
       have hx5 := bt_at a0 x3_1
       replace p5 := eq_true p5
       replace q5 := eq_true q5
       go_wp2
       go_roundg k1
       case measure => have := HK1.out; omega
       case rel => exact ⟨(wrap64 (x3_1 + 1)), (by first | rfl | (simp; done) | (simp [*]; done)), H', ⟨by have := HK1.out; omega⟩, by repeat (first | exact Drawn0.refl _ | apply Drawn0.step)⟩
      ·rw [if_neg c6] at H
       have c6b0 : ((bt a0 x3_1) == 91) = false := beq_eq_false_iff_ne.mpr c6
       have c6b1 : ((bt a0 x3_1) != 91) = true := bne_iff_ne.mpr c6
       have H' := Aside0.mk H
       clear H
       have p5 : 0 ≤ (x3_1 : Int) := of_decide_eq_true (by first | (with_reducible assumption) | assumption)
       have q5 : x3_1 < (a0.size : Int) := of_decide_eq_true (by first | (with_reducible assumption) | assumption)
       have hx5 := bt_at a0 x3_1
       replace p5 := eq_true p5
       replace q5 := eq_true q5
       go_wp2
       go_meet
       case rel => exact ⟨_, (x3_1), (by first | rfl | (simp; done) | (simp [*]; done)), H', ⟨by have := HK1.out; first | omega | exact Nat.le_refl _⟩, by repeat (first | exact Drawn0.refl _ | apply Drawn0.step)⟩
     ·rw [if_neg c4] at H
      exact absurd H (by simp)
    ·rw [if_neg c3] at H
     have c3b0 : decide (x3_1 < (a0.size : Int)) = false := decide_eq_false c3
     clear c3
     (first | rw [c3b0] | (simp only [i64_w, i32_w]; rw [c3b0]) | skip)
     have H' := Aside0.mk H
     clear H
     go_wp2
     go_meet
     case rel => exact ⟨_, (x3_1), (by first | rfl | (simp; done) | (simp [*]; done)), H', ⟨by have := HK1.out; first | omega | exact Nat.le_refl _⟩, by repeat (first | exact Drawn0.refl _ | apply Drawn0.step)⟩
 case rest =>
  clear HC2
  try clear c2
  try clear p2
  try clear c3
  try clear c3b0
  try clear c4
  try clear c4b0
  try clear p5
  try clear q5
  try clear hx5
  try clear c6
  try clear c6b0
  try clear c6b1
  try clear p6
  try clear p2
  try clear p5
  try clear q5
  obtain ⟨kq, x3_1, rfl, HA, HJ1, ⟨mc1, rfl⟩⟩ := hcut
  cases kq with
  | zero => exact absurd HA.out (by simp [regletref02_Type.j1])
  | succ kj1 =>
   have H := HA.out
   clear HA
   simp only [regletref02_Type.j1] at H
   generalize hd : a0.extract (x3_1 : Int).toNat a0.size = d at H
   by_cases c7 : 0 ≤ x3_1
   ·rw [if_pos c7] at H
    have c7b0 := eq_true c7
    have c7b1 : decide (0 ≤ x3_1) = true := decide_eq_true c7
    clear c7
    by_cases c8 : x3_1 ≤ (a0.size : Int)
    ·rw [if_pos c8] at H
     have c8b0 := eq_true c8
     have c8b1 : decide (x3_1 ≤ (a0.size : Int)) = true := decide_eq_true c8
     clear c8
     by_cases c9 : x3_1 > 8
     ·rw [if_pos c9] at H
      have c9b0 : decide (8 < x3_1) = true := decide_eq_true c9
      clear c9
      obtain rfl := Option.some.inj H
      go_wp2
      go_ret
      exact ⟨by first | rfl | (simp; done) | (simp [*]; done), by repeat (first | exact Drawn0.refl _ | apply Drawn0.step)⟩
     ·rw [if_neg c9] at H
      have c9b0 : decide (8 < x3_1) = false := decide_eq_false c9
      clear c9
      by_cases c10 : d.toList = ([73] : List UInt8)
      ·rw [if_pos c10] at H
       have c10b0 : (d.toList == ([73] : List UInt8)) = true := beq_iff_eq.mpr c10
       have c10b1 : (d.toList != ([73] : List UInt8)) = false := bne_eq_false_iff_eq.mpr c10
       clear c10
       obtain rfl := Option.some.inj H
       go_wp2
       go_ret
       exact ⟨by first | rfl | (simp; done) | (simp [*]; done), by repeat (first | exact Drawn0.refl _ | apply Drawn0.step)⟩
      ·rw [if_neg c10] at H
       have c10b0 : (d.toList == ([73] : List UInt8)) = false := beq_eq_false_iff_ne.mpr c10
       have c10b1 : (d.toList != ([73] : List UInt8)) = true := bne_iff_ne.mpr c10
       by_cases c11 : d.toList = ([74] : List UInt8)
       ·rw [if_pos c11] at H
        have c11b0 : (d.toList == ([74] : List UInt8)) = true := beq_iff_eq.mpr c11
        have c11b1 : (d.toList != ([74] : List UInt8)) = false := bne_eq_false_iff_eq.mpr c11
        clear c11
        obtain rfl := Option.some.inj H
        go_wp2
        go_ret
        exact ⟨by first | rfl | (simp; done) | (simp [*]; done), by repeat (first | exact Drawn0.refl _ | apply Drawn0.step)⟩
       ·rw [if_neg c11] at H
        have c11b0 : (d.toList == ([74] : List UInt8)) = false := beq_eq_false_iff_ne.mpr c11
        have c11b1 : (d.toList != ([74] : List UInt8)) = true := bne_iff_ne.mpr c11
        by_cases c12 : (d.size : Int) > 2
        ·rw [if_pos c12] at H
         have c12b0 : decide (2 < (d.size : Int)) = true := decide_eq_true c12
         have c12b1 : decide (2 < d.size) = true := decide_eq_true (by omega)
         clear c12
         by_cases c13 : 0 < (d.size : Int)
         ·rw [if_pos c13] at H
          have c13b0 : decide (0 < (d.size : Int)) = true := decide_eq_true c13
          have c13b1 : decide (0 < d.size) = true := decide_eq_true (by omega)
          clear c13
          by_cases c15 : (bt d 0) = 76
          ·rw [if_pos c15] at H
           have c15b0 : ((bt d 0) == 76) = true := beq_iff_eq.mpr c15
           have c15b1 : ((bt d 0) != 76) = false := bne_eq_false_iff_eq.mpr c15
           clear c15
           obtain ⟨ji16, hji16⟩ : ∃ j_ : Int, (wrap64 ((d.size : Int) - 1)) = j_ := ⟨_, rfl⟩
           replace H : (if 0 ≤ (ji16) then (if (ji16) < (d.size : Int) then (if (bt d (ji16)) = 59 then (if 1 ≤ (ji16) then (if (ji16) ≤ (d.size : Int) then ((regletref02_Name.f kj1 (d.extract 1 ((ji16) : Int).toNat) false).bind fun t160 => (some t160)) else (none)) else (none)) else (some false)) else (none)) else (none)) = some r := by first | (rw [hji16] at H; exact H) | (simp only [hji16] at H ⊢; exact H)
           have hji16w : (IntKind.i64.wrap ((d.size : Int) - 1)) = ji16 := (i64_w _).trans hji16
           by_cases c17 : 0 ≤ (ji16)
           ·rw [if_pos c17] at H
            have c17b0 : decide (0 ≤ (ji16)) = true := decide_eq_true c17
            clear c17
            by_cases c18 : (ji16) < (d.size : Int)
            ·rw [if_pos c18] at H
             have c18b0 : decide ((ji16) < (d.size : Int)) = true := decide_eq_true c18
             clear c18
             by_cases c20 : (bt d (ji16)) = 59
             ·rw [if_pos c20] at H
              have c20b0 : ((bt d (ji16)) == 59) = true := beq_iff_eq.mpr c20
              have c20b1 : ((bt d (ji16)) != 59) = false := bne_eq_false_iff_eq.mpr c20
              clear c20
              by_cases c21 : 1 ≤ (ji16)
              ·rw [if_pos c21] at H
               have c21b0 := eq_true c21
               have c21b1 : decide (1 ≤ (ji16)) = true := decide_eq_true c21
               clear c21
               by_cases c22 : (ji16) ≤ (d.size : Int)
               ·rw [if_pos c22] at H
                have c22b0 := eq_true c22
                have c22b1 : decide ((ji16) ≤ (d.size : Int)) = true := decide_eq_true c22
                clear c22
                replace H := Option.bind_eq_some_iff.mp H
                obtain ⟨t160, A230, H⟩ := H
                replace H : (some t160) = some r := H
                have A23 := Aside0.mk A230
                clear A230
                obtain rfl := Option.some.inj H
                have p14 : 0 ≤ (0 : Int) := (by omega)
                have q14 : 0 < d.size := (by have : (0 : Int) < (d.size : Int) := of_decide_eq_true (by first | (with_reducible assumption) | assumption); omega)
                have hx14 : ∀ h : 0 < d.size, ((d[0]'h).toNat : Int) = bt d 0 := bt_at d 0
                clear p14
                have qi14 : (0 < (d.size : Int)) = True := eq_true (of_decide_eq_true (by first | (with_reducible assumption) | assumption))
                replace q14 := eq_true q14
                have p19 : 0 ≤ ((ji16) : Int) := of_decide_eq_true (by first | (with_reducible assumption) | assumption)
                have q19 : (ji16) < (d.size : Int) := of_decide_eq_true (by first | (with_reducible assumption) | assumption)
                have hx19 := bt_at d (ji16)
                replace p19 := eq_true p19
                replace q19 := eq_true q19
                go_wp2_with (first | (go_at_call 24; (with_reducible refine (regletref02_Name.calls kj1 (d.extract 1 ((ji16) : Int).toNat) false t160 _ A23.out).mono ?_); rintro e w' ⟨rfl, ⟨nd, rfl⟩⟩))
                go_ret
                exact ⟨by first | rfl | (simp; done) | (simp only [← hji16] <;> (first | rfl | simp)) | (simp [*]; done), by repeat (first | exact Drawn0.refl _ | apply Drawn0.step)⟩
               ·rw [if_neg c22] at H
                exact absurd H (by simp)
              ·rw [if_neg c21] at H
               exact absurd H (by simp)
             ·rw [if_neg c20] at H
              have c20b0 : ((bt d (ji16)) == 59) = false := beq_eq_false_iff_ne.mpr c20
              have c20b1 : ((bt d (ji16)) != 59) = true := bne_iff_ne.mpr c20
              obtain rfl := Option.some.inj H
              have p14 : 0 ≤ (0 : Int) := (by omega)
              have q14 : 0 < d.size := (by have : (0 : Int) < (d.size : Int) := of_decide_eq_true (by first | (with_reducible assumption) | assumption); omega)
              have hx14 : ∀ h : 0 < d.size, ((d[0]'h).toNat : Int) = bt d 0 := bt_at d 0
              clear p14
              have qi14 : (0 < (d.size : Int)) = True := eq_true (of_decide_eq_true (by first | (with_reducible assumption) | assumption))
              replace q14 := eq_true q14
              have p19 : 0 ≤ ((ji16) : Int) := of_decide_eq_true (by first | (with_reducible assumption) | assumption)
              have q19 : (ji16) < (d.size : Int) := of_decide_eq_true (by first | (with_reducible assumption) | assumption)
              have hx19 := bt_at d (ji16)
              replace p19 := eq_true p19
              replace q19 := eq_true q19
              go_wp2
              go_ret
              exact ⟨by first | rfl | (simp; done) | (simp only [← hji16] <;> (first | rfl | simp)) | (simp [*]; done), by repeat (first | exact Drawn0.refl _ | apply Drawn0.step)⟩
            ·rw [if_neg c18] at H
             exact absurd H (by simp)
           ·rw [if_neg c17] at H
            exact absurd H (by simp)
          ·rw [if_neg c15] at H
           have c15b0 : ((bt d 0) == 76) = false := beq_eq_false_iff_ne.mpr c15
           have c15b1 : ((bt d 0) != 76) = true := bne_iff_ne.mpr c15
           obtain rfl := Option.some.inj H
           have p14 : 0 ≤ (0 : Int) := (by omega)
           have q14 : 0 < d.size := (by have : (0 : Int) < (d.size : Int) := of_decide_eq_true (by first | (with_reducible assumption) | assumption); omega)
           have hx14 : ∀ h : 0 < d.size, ((d[0]'h).toNat : Int) = bt d 0 := bt_at d 0
           clear p14
           have qi14 : (0 < (d.size : Int)) = True := eq_true (of_decide_eq_true (by first | (with_reducible assumption) | assumption))
           replace q14 := eq_true q14
           go_wp2
           go_ret
           exact ⟨by first | rfl | (simp; done) | (simp [*]; done), by repeat (first | exact Drawn0.refl _ | apply Drawn0.step)⟩
         ·rw [if_neg c13] at H
          exact absurd H (by simp)
        ·rw [if_neg c12] at H
         have c12b0 : decide (2 < (d.size : Int)) = false := decide_eq_false c12
         have c12b1 : decide (2 < d.size) = false := decide_eq_false (by omega)
         clear c12
         obtain rfl := Option.some.inj H
         go_wp2
         go_ret
         exact ⟨by first | rfl | (simp; done) | (simp [*]; done), by repeat (first | exact Drawn0.refl _ | apply Drawn0.step)⟩
    ·rw [if_neg c8] at H
     exact absurd H (by simp)
   ·rw [if_neg c7] at H
    exact absurd H (by simp)

/-! ### regletlaw02_DescNames: function 6 -/
def regletlaw02_DescNames.f (k : Nat) (a0 : ByteArray) : Option (Bool) := (regletlaw02_holds.f k).bind fun t161 => (if t161 = true then ((desc_Name.f a0 false).bind fun t162 => ((regletref02_Name.f k a0 false).bind fun t163 => (if (t162 == t163) = true then ((desc_Name.f a0 true).bind fun t164 => ((regletref02_Name.f k a0 true).bind fun t165 => (if (t164 == t165) = true then ((desc_Type.f k a0).bind fun t166 => ((regletref02_Type.f k a0).bind fun t167 => (some (t166 == t167)))) else (some false)))) else (some false)))) else (some false))
theorem regletlaw02_DescNames.mono : ∀ a0 k, LeO (regletlaw02_DescNames.f k a0) (regletlaw02_DescNames.f (k + 1) a0) := by
 intro a0 k
 unfold regletlaw02_DescNames.f
 repeat' first
   | (with_reducible exact desc_Type.mono _ _)
   | (with_reducible exact regletlaw02_holds.mono _)
   | (with_reducible exact regletref02_Name.mono _ _ _)
   | (with_reducible exact regletref02_Type.mono _ _)
   | (with_reducible exact LeO.refl _)
   | (with_reducible exact LeO.none _)
   | (with_reducible refine LeO.ite ?_ ?_)
   | (with_reducible refine LeO.bind ?_ (fun _ => ?_))
   | exact desc_Type.mono _ _
   | exact regletlaw02_holds.mono _
   | exact regletref02_Name.mono _ _ _
   | exact regletref02_Type.mono _ _
   | exact LeO.none _
   | refine LeO.ite ?_ ?_
   | refine LeO.bind ?_ (fun _ => ?_)
set_option maxHeartbeats 8000000 in
set_option maxRecDepth 100000 in
theorem regletlaw02_DescNames.calls (k : Nat) (a0 : ByteArray) (r : Bool) (w : World) (h : regletlaw02_DescNames.f k a0 = some r) :
  Calls Try.prog 6 #[.string a0] w fun e w' => e = .returned (.bool r) ∧ Below w.heap.size w w' := by
 have HB := Aside0.mk (Below.refl w.heap.size w)
 have H : ((regletlaw02_holds.f k).bind fun t161 => (if t161 = true then ((desc_Name.f a0 false).bind fun t162 => ((regletref02_Name.f k a0 false).bind fun t163 => (if (t162 == t163) = true then ((desc_Name.f a0 true).bind fun t164 => ((regletref02_Name.f k a0 true).bind fun t165 => (if (t164 == t165) = true then ((desc_Type.f k a0).bind fun t166 => ((regletref02_Type.f k a0).bind fun t167 => (some (t166 == t167)))) else (some false)))) else (some false)))) else (some false))) = some r := h
 clear h
 replace H := Option.bind_eq_some_iff.mp H
 obtain ⟨t161, A20, H⟩ := H
 replace H : (if t161 = true then ((desc_Name.f a0 false).bind fun t162 => ((regletref02_Name.f k a0 false).bind fun t163 => (if (t162 == t163) = true then ((desc_Name.f a0 true).bind fun t164 => ((regletref02_Name.f k a0 true).bind fun t165 => (if (t164 == t165) = true then ((desc_Type.f k a0).bind fun t166 => ((regletref02_Type.f k a0).bind fun t167 => (some (t166 == t167)))) else (some false)))) else (some false)))) else (some false)) = some r := H
 have A2 := Aside0.mk A20
 clear A20
 by_cases c3 : t161 = true
 ·subst c3
  have H1 : ((desc_Name.f a0 false).bind fun t162 => ((regletref02_Name.f k a0 false).bind fun t163 => (if (t162 == t163) = true then ((desc_Name.f a0 true).bind fun t164 => ((regletref02_Name.f k a0 true).bind fun t165 => (if (t164 == t165) = true then ((desc_Type.f k a0).bind fun t166 => ((regletref02_Type.f k a0).bind fun t167 => (some (t166 == t167)))) else (some false)))) else (some false)))) = some r := by rw [if_pos rfl] at H; exact H
  clear H
  have H := H1
  clear H1
  replace H := Option.bind_eq_some_iff.mp H
  obtain ⟨t162, A40, H⟩ := H
  replace H : ((regletref02_Name.f k a0 false).bind fun t163 => (if (t162 == t163) = true then ((desc_Name.f a0 true).bind fun t164 => ((regletref02_Name.f k a0 true).bind fun t165 => (if (t164 == t165) = true then ((desc_Type.f k a0).bind fun t166 => ((regletref02_Type.f k a0).bind fun t167 => (some (t166 == t167)))) else (some false)))) else (some false))) = some r := H
  have A4 := Aside0.mk A40
  clear A40
  replace H := Option.bind_eq_some_iff.mp H
  obtain ⟨t163, A50, H⟩ := H
  replace H : (if (t162 == t163) = true then ((desc_Name.f a0 true).bind fun t164 => ((regletref02_Name.f k a0 true).bind fun t165 => (if (t164 == t165) = true then ((desc_Type.f k a0).bind fun t166 => ((regletref02_Type.f k a0).bind fun t167 => (some (t166 == t167)))) else (some false)))) else (some false)) = some r := H
  have A5 := Aside0.mk A50
  clear A50
  by_cases c6 : (t162 == t163) = true
  ·rw [if_pos c6] at H
   have c6b0 : (t162 == t163) = true := c6
   (try (have c6b1 : decide (t162 = t163) = true := by simpa using c6))
   (try (have c6b2 : (t162 == t163) = true := by simpa using c6))
   clear c6
   replace H := Option.bind_eq_some_iff.mp H
   obtain ⟨t164, A70, H⟩ := H
   replace H : ((regletref02_Name.f k a0 true).bind fun t165 => (if (t164 == t165) = true then ((desc_Type.f k a0).bind fun t166 => ((regletref02_Type.f k a0).bind fun t167 => (some (t166 == t167)))) else (some false))) = some r := H
   have A7 := Aside0.mk A70
   clear A70
   replace H := Option.bind_eq_some_iff.mp H
   obtain ⟨t165, A80, H⟩ := H
   replace H : (if (t164 == t165) = true then ((desc_Type.f k a0).bind fun t166 => ((regletref02_Type.f k a0).bind fun t167 => (some (t166 == t167)))) else (some false)) = some r := H
   have A8 := Aside0.mk A80
   clear A80
   by_cases c9 : (t164 == t165) = true
   ·rw [if_pos c9] at H
    have c9b0 : (t164 == t165) = true := c9
    (try (have c9b1 : decide (t164 = t165) = true := by simpa using c9))
    (try (have c9b2 : (t164 == t165) = true := by simpa using c9))
    clear c9
    replace H := Option.bind_eq_some_iff.mp H
    obtain ⟨t166, A100, H⟩ := H
    replace H : ((regletref02_Type.f k a0).bind fun t167 => (some (t166 == t167))) = some r := H
    have A10 := Aside0.mk A100
    clear A100
    replace H := Option.bind_eq_some_iff.mp H
    obtain ⟨t167, A110, H⟩ := H
    replace H : (some (t166 == t167)) = some r := H
    have A11 := Aside0.mk A110
    clear A110
    obtain rfl := Option.some.inj H
    go_enter Try.func6, Try.ntmps6
    go_wp2_with (first | ((with_reducible refine gate_callee (f := 9) rfl ?_); refine goesL_ (some 3) rfl rfl Try.func9 (by kernel_rfl) rfl #[] rfl (by (try simp only [List.map_toArray, List.map_cons, List.map_nil]); first | done | rfl | (simp only [List.length_drop, List.length_take]; rfl)) ?_; (with_reducible refine (regletlaw02_holds.calls k  true _ A2.out).mono ?_); rintro e w12 ⟨rfl, hb⟩; refine ⟨_, rfl, ?_⟩; have n0_ := Aside0.mk (below_step (by repeat (first | (with_reducible first | exact HB.out | apply below_alloc | apply pw_below_drewN | apply below_drew1) | exact HB.out)) hb); clear HB; have HB := n0_; clear n0_; (try clear hb); (try clear hb2); (try clear hk); (try clear hi)) | ((with_reducible refine gate_callee (f := 18) rfl ?_); refine goesL_ (some 6) rfl rfl Try.func18 (by kernel_rfl) rfl #[.string a0, .bool false] rfl (by (try simp only [List.map_toArray, List.map_cons, List.map_nil]); first | done | rfl | (simp only [List.length_drop, List.length_take]; rfl)) ?_; (with_reducible refine (desc_Name.calls a0 false t162 _ A4.out).mono ?_); rintro e w13 ⟨rfl, hb⟩; refine ⟨_, rfl, ?_⟩; have n0_ := Aside0.mk (below_step (by repeat (first | (with_reducible first | exact HB.out | apply below_alloc | apply pw_below_drewN | apply below_drew1) | exact HB.out)) hb); clear HB; have HB := n0_; clear n0_; (try clear hb); (try clear hb2); (try clear hk); (try clear hi)) | ((with_reducible refine gate_callee (f := 24) rfl ?_); refine goesL_ (some 8) rfl rfl Try.func24 (by kernel_rfl) rfl #[.string a0, .bool false] rfl (by (try simp only [List.map_toArray, List.map_cons, List.map_nil]); first | done | rfl | (simp only [List.length_drop, List.length_take]; rfl)) ?_; (with_reducible refine (regletref02_Name.calls k a0 false t163 _ A5.out).mono ?_); rintro e w' ⟨rfl, ⟨nd, rfl⟩⟩; refine ⟨_, rfl, ?_⟩) | (go_at_call 18; (with_reducible refine (desc_Name.calls a0 true t164 _ A7.out).mono ?_); rintro e w14 ⟨rfl, hb⟩; have n0_ := Aside0.mk (below_step (by repeat (first | (with_reducible first | exact HB.out | apply below_alloc | apply pw_below_drewN | apply below_drew1) | exact HB.out)) hb); clear HB; have HB := n0_; clear n0_; (try clear hb); (try clear hb2); (try clear hk); (try clear hi)) | (go_at_call 24; (with_reducible refine (regletref02_Name.calls k a0 true t165 _ A8.out).mono ?_); rintro e w' ⟨rfl, ⟨nd, rfl⟩⟩) | (go_at_call 19; (with_reducible refine (desc_Type.calls k a0 t166 _ A10.out).mono ?_); rintro e w15 ⟨rfl, hb⟩; have n0_ := Aside0.mk (below_step (by repeat (first | (with_reducible first | exact HB.out | apply below_alloc | apply pw_below_drewN | apply below_drew1) | exact HB.out)) hb); clear HB; have HB := n0_; clear n0_; (try clear hb); (try clear hb2); (try clear hk); (try clear hi)) | (go_at_call 25; (with_reducible refine (regletref02_Type.calls k a0 t167 _ A11.out).mono ?_); rintro e w' ⟨rfl, ⟨nd, rfl⟩⟩))
    go_ret
    exact ⟨by first | rfl | (simp [errW_none, errW_some] <;> rfl) | (simp [*, errW_none, errW_some] <;> rfl), by repeat (first | (with_reducible first | exact HB.out | apply below_alloc | apply pw_below_drewN | apply below_drew1) | exact HB.out)⟩
   ·rw [if_neg c9] at H
    have c9b0 : (t164 == t165) = false := by simpa using c9
    (try (have c9b1 : decide (t164 = t165) = false := by simpa using c9))
    (try (have c9b2 : (t164 == t165) = false := by simpa using c9))
    (try (have c9b3 : ¬ (t164 = t165) := by simpa using c9))
    clear c9
    obtain rfl := Option.some.inj H
    go_enter Try.func6, Try.ntmps6
    go_wp2_with (first | ((with_reducible refine gate_callee (f := 9) rfl ?_); refine goesL_ (some 3) rfl rfl Try.func9 (by kernel_rfl) rfl #[] rfl (by (try simp only [List.map_toArray, List.map_cons, List.map_nil]); first | done | rfl | (simp only [List.length_drop, List.length_take]; rfl)) ?_; (with_reducible refine (regletlaw02_holds.calls k  true _ A2.out).mono ?_); rintro e w16 ⟨rfl, hb⟩; refine ⟨_, rfl, ?_⟩; have n0_ := Aside0.mk (below_step (by repeat (first | (with_reducible first | exact HB.out | apply below_alloc | apply pw_below_drewN | apply below_drew1) | exact HB.out)) hb); clear HB; have HB := n0_; clear n0_; (try clear hb); (try clear hb2); (try clear hk); (try clear hi)) | ((with_reducible refine gate_callee (f := 18) rfl ?_); refine goesL_ (some 6) rfl rfl Try.func18 (by kernel_rfl) rfl #[.string a0, .bool false] rfl (by (try simp only [List.map_toArray, List.map_cons, List.map_nil]); first | done | rfl | (simp only [List.length_drop, List.length_take]; rfl)) ?_; (with_reducible refine (desc_Name.calls a0 false t162 _ A4.out).mono ?_); rintro e w17 ⟨rfl, hb⟩; refine ⟨_, rfl, ?_⟩; have n0_ := Aside0.mk (below_step (by repeat (first | (with_reducible first | exact HB.out | apply below_alloc | apply pw_below_drewN | apply below_drew1) | exact HB.out)) hb); clear HB; have HB := n0_; clear n0_; (try clear hb); (try clear hb2); (try clear hk); (try clear hi)) | ((with_reducible refine gate_callee (f := 24) rfl ?_); refine goesL_ (some 8) rfl rfl Try.func24 (by kernel_rfl) rfl #[.string a0, .bool false] rfl (by (try simp only [List.map_toArray, List.map_cons, List.map_nil]); first | done | rfl | (simp only [List.length_drop, List.length_take]; rfl)) ?_; (with_reducible refine (regletref02_Name.calls k a0 false t163 _ A5.out).mono ?_); rintro e w' ⟨rfl, ⟨nd, rfl⟩⟩; refine ⟨_, rfl, ?_⟩) | (go_at_call 18; (with_reducible refine (desc_Name.calls a0 true t164 _ A7.out).mono ?_); rintro e w18 ⟨rfl, hb⟩; have n0_ := Aside0.mk (below_step (by repeat (first | (with_reducible first | exact HB.out | apply below_alloc | apply pw_below_drewN | apply below_drew1) | exact HB.out)) hb); clear HB; have HB := n0_; clear n0_; (try clear hb); (try clear hb2); (try clear hk); (try clear hi)) | (go_at_call 24; (with_reducible refine (regletref02_Name.calls k a0 true t165 _ A8.out).mono ?_); rintro e w' ⟨rfl, ⟨nd, rfl⟩⟩))
    go_ret
    exact ⟨by first | rfl | (simp [errW_none, errW_some] <;> rfl) | (simp [*, errW_none, errW_some] <;> rfl), by repeat (first | (with_reducible first | exact HB.out | apply below_alloc | apply pw_below_drewN | apply below_drew1) | exact HB.out)⟩
  ·rw [if_neg c6] at H
   have c6b0 : (t162 == t163) = false := by simpa using c6
   (try (have c6b1 : decide (t162 = t163) = false := by simpa using c6))
   (try (have c6b2 : (t162 == t163) = false := by simpa using c6))
   (try (have c6b3 : ¬ (t162 = t163) := by simpa using c6))
   clear c6
   obtain rfl := Option.some.inj H
   go_enter Try.func6, Try.ntmps6
   go_wp2_with (first | ((with_reducible refine gate_callee (f := 9) rfl ?_); refine goesL_ (some 3) rfl rfl Try.func9 (by kernel_rfl) rfl #[] rfl (by (try simp only [List.map_toArray, List.map_cons, List.map_nil]); first | done | rfl | (simp only [List.length_drop, List.length_take]; rfl)) ?_; (with_reducible refine (regletlaw02_holds.calls k  true _ A2.out).mono ?_); rintro e w19 ⟨rfl, hb⟩; refine ⟨_, rfl, ?_⟩; have n0_ := Aside0.mk (below_step (by repeat (first | (with_reducible first | exact HB.out | apply below_alloc | apply pw_below_drewN | apply below_drew1) | exact HB.out)) hb); clear HB; have HB := n0_; clear n0_; (try clear hb); (try clear hb2); (try clear hk); (try clear hi)) | ((with_reducible refine gate_callee (f := 18) rfl ?_); refine goesL_ (some 6) rfl rfl Try.func18 (by kernel_rfl) rfl #[.string a0, .bool false] rfl (by (try simp only [List.map_toArray, List.map_cons, List.map_nil]); first | done | rfl | (simp only [List.length_drop, List.length_take]; rfl)) ?_; (with_reducible refine (desc_Name.calls a0 false t162 _ A4.out).mono ?_); rintro e w20 ⟨rfl, hb⟩; refine ⟨_, rfl, ?_⟩; have n0_ := Aside0.mk (below_step (by repeat (first | (with_reducible first | exact HB.out | apply below_alloc | apply pw_below_drewN | apply below_drew1) | exact HB.out)) hb); clear HB; have HB := n0_; clear n0_; (try clear hb); (try clear hb2); (try clear hk); (try clear hi)) | ((with_reducible refine gate_callee (f := 24) rfl ?_); refine goesL_ (some 8) rfl rfl Try.func24 (by kernel_rfl) rfl #[.string a0, .bool false] rfl (by (try simp only [List.map_toArray, List.map_cons, List.map_nil]); first | done | rfl | (simp only [List.length_drop, List.length_take]; rfl)) ?_; (with_reducible refine (regletref02_Name.calls k a0 false t163 _ A5.out).mono ?_); rintro e w' ⟨rfl, ⟨nd, rfl⟩⟩; refine ⟨_, rfl, ?_⟩))
   go_ret
   exact ⟨by first | rfl | (simp [errW_none, errW_some] <;> rfl) | (simp [*, errW_none, errW_some] <;> rfl), by repeat (first | (with_reducible first | exact HB.out | apply below_alloc | apply pw_below_drewN | apply below_drew1) | exact HB.out)⟩
 ·replace c3 := Bool.eq_false_iff.mpr c3
  subst c3
  have H1 : (some false) = some r := by rw [if_neg (show ¬ (false = true) by decide)] at H; exact H
  clear H
  have H := H1
  clear H1
  obtain rfl := Option.some.inj H
  go_enter Try.func6, Try.ntmps6
  go_wp2_with (first | ((with_reducible refine gate_callee (f := 9) rfl ?_); refine goesL_ (some 3) rfl rfl Try.func9 (by kernel_rfl) rfl #[] rfl (by (try simp only [List.map_toArray, List.map_cons, List.map_nil]); first | done | rfl | (simp only [List.length_drop, List.length_take]; rfl)) ?_; (with_reducible refine (regletlaw02_holds.calls k  false _ A2.out).mono ?_); rintro e w21 ⟨rfl, hb⟩; refine ⟨_, rfl, ?_⟩; have n0_ := Aside0.mk (below_step (by repeat (first | (with_reducible first | exact HB.out | apply below_alloc | apply pw_below_drewN | apply below_drew1) | exact HB.out)) hb); clear HB; have HB := n0_; clear n0_; (try clear hb); (try clear hb2); (try clear hk); (try clear hi)))
  go_ret
  exact ⟨by first | rfl | (simp [errW_none, errW_some] <;> rfl) | (simp [*, errW_none, errW_some] <;> rfl), by repeat (first | (with_reducible first | exact HB.out | apply below_alloc | apply pw_below_drewN | apply below_drew1) | exact HB.out)⟩

/-- THE ONE PURE STATEMENT of regletlaw02_DescNames: yours. -/
def regletlaw02_DescNames.Pure : Prop := ∀ (a0 : ByteArray), a0.size ≤ 140737488351232 → ∃ k, regletlaw02_DescNames.f k a0 = some true
theorem regletlaw02_DescNames.walk (P : regletlaw02_DescNames.Pure) (a0 : ByteArray) (w : World) (w0 : a0.size ≤ 140737488351232) :
  Calls Try.prog 6 #[.string a0] w fun e w' => e = .returned (.bool true) ∧ Below w.heap.size w w' := by
 obtain ⟨k, h⟩ := P a0 w0
 refine (regletlaw02_DescNames.calls k a0 true w h).mono ?_
 rintro e w' ⟨rfl, hd⟩
 exact ⟨rfl, hd⟩

end Go.Proofs.Ytbbogkhidaekoaa.PAll
