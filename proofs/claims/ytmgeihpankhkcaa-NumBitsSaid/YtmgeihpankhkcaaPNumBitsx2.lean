-- PRINTED BY print.sh 35421559b90ae4d0a3588c463048766b98c2df88dd9212a6774a882060cdf62d: not written by this session
import Derived.Test.YtmgeihpankhkcaaPNumBitsx0
import Derived.Test.YtmgeihpankhkcaaPNumBitsx1
namespace Go.Proofs.Ytmgeihpankhkcaa.PNumBits
open Go.RowKit Go.Proofs.YtmgeihpankhkcaaW.PrintWords Go.Proofs.YtmgeihpankhkcaaW.PrintLast Go.Proofs.YtmgeihpankhkcaaW.PrintMore
attribute [local go_sem] max2_int min2_int max_two min_two max_three min_three max_four min_four   -- for this text's walks alone
set_option linter.unusedVariables false
set_option linter.unusedSimpArgs false

/-! ### regletlaw01_NumBits: function 8 -/
mutual
def regletlaw01_NumBits.l0 : Nat → Int → Int → Int → Int → Int → Int → Int → Option (Bool)
  | 0, _, _, _, _, _, _, _ => none
  | k + 1, x0, x1, x2, x7, x8, x9, x26 => if x26 < 64 then (if 0 ≤ x26 then (if (Go.bits .and .i64 (shr .i64 x7 x26) 1) = (wrap64 ((Go.bits .and .i64 (shr .i64 x0 x26) 1) * (Go.bits .and .i64 (shr .i64 x1 x26) 1))) then (if (Go.bits .and .i64 (shr .i64 x8 x26) 1) = (mx (Go.bits .and .i64 (shr .i64 x0 x26) 1) (Go.bits .and .i64 (shr .i64 x1 x26) 1)) then (if (Go.bits .and .i64 (shr .i64 x9 x26) 1) = (Go.bits .and .i64 (wrap64 ((Go.bits .and .i64 (shr .i64 x0 x26) 1) + (Go.bits .and .i64 (shr .i64 x1 x26) 1))) 1) then (regletlaw01_NumBits.l0 k x0 x1 x2 x7 x8 x9 (wrap64 (x26 + 1))) else (some false)) else (some false)) else (some false)) else (none)) else ((some (([121, 123, 125] : List Int) : List Int)).bind fun y112 => (regletlaw01_NumBits.l1 k x0 x2 y112 (y112.length : Int) 0))
def regletlaw01_NumBits.l1 : Nat → Int → Int → List Int → Int → Int → Option (Bool)
  | 0, _, _, _, _, _ => none
  | k + 1, x0, x2, x67, x68, x69 => if x69 < x68 then (if 0 ≤ x69 then (if x69 < (x67.length : Int) then ((num_Long.f k (rd x67 x69) x0 x2).bind fun t116 => ((num_Long.f k (rd x67 x69) x0 (Go.bits .and .i64 x2 63)).bind fun t117 => (if t116 = t117 then ((num_Int.f k (wrap64 ((rd x67 x69) - 1)) (wrap32 (x0)) (wrap32 (x2))).bind fun t118 => ((num_Int.f k (wrap64 ((rd x67 x69) - 1)) (wrap32 (x0)) (Go.bits .and .i32 (wrap32 (x2)) 31)).bind fun t119 => (if t118 = t119 then (regletlaw01_NumBits.l1 k x0 x2 x67 x68 (wrap64 (x69 + 1))) else (some false)))) else (some false)))) else (none)) else (none)) else (some true)
end
def regletlaw01_NumBits.f (k : Nat) (a0 : Int) (a1 : Int) (a2 : Int) : Option (Bool) := (regletlaw01_holds.f k).bind fun t108 => (if t108 = true then ((num_Long.f k 127 a0 a1).bind fun t109 => ((num_Long.f k 129 a0 a1).bind fun t110 => ((num_Long.f k 131 a0 a1).bind fun t111 => (regletlaw01_NumBits.l0 k a0 a1 a2 t109 t110 t111 0)))) else (some false))
theorem regletlaw01_NumBits.mono_l : ∀ k, (∀ y0 y1 y2 y3 y4 y5 y6, LeO (regletlaw01_NumBits.l0 k y0 y1 y2 y3 y4 y5 y6) (regletlaw01_NumBits.l0 (k + 1) y0 y1 y2 y3 y4 y5 y6)) ∧ (∀ y0 y1 y2 y3 y4, LeO (regletlaw01_NumBits.l1 k y0 y1 y2 y3 y4) (regletlaw01_NumBits.l1 (k + 1) y0 y1 y2 y3 y4))
  | 0 => ⟨fun _ _ _ _ _ _ _ r h => by simp [regletlaw01_NumBits.l0] at h, fun _ _ _ _ _ r h => by simp [regletlaw01_NumBits.l1] at h⟩
  | k + 1 => by
    obtain ⟨ih0, ih1⟩ := regletlaw01_NumBits.mono_l k
    refine ⟨?_, ?_⟩
    · intro y0 y1 y2 y3 y4 y5 y6
      unfold regletlaw01_NumBits.l0
      repeat' first
      | (with_reducible exact ih0 _ _ _ _ _ _ _)
      | (with_reducible exact ih1 _ _ _ _ _)
      | (with_reducible exact num_Int.mono _ _ _ _)
      | (with_reducible exact num_Long.mono _ _ _ _)
      | (with_reducible exact regletlaw01_holds.mono _)
      | (with_reducible exact LeO.refl _)
      | (with_reducible exact LeO.none _)
      | (with_reducible refine LeO.ite ?_ ?_)
      | (with_reducible refine LeO.bind ?_ (fun _ => ?_))
      | exact ih0 _ _ _ _ _ _ _
      | exact ih1 _ _ _ _ _
      | exact num_Int.mono _ _ _ _
      | exact num_Long.mono _ _ _ _
      | exact regletlaw01_holds.mono _
      | exact LeO.none _
      | refine LeO.ite ?_ ?_
      | refine LeO.bind ?_ (fun _ => ?_)
    · intro y0 y1 y2 y3 y4
      unfold regletlaw01_NumBits.l1
      repeat' first
      | (with_reducible exact ih0 _ _ _ _ _ _ _)
      | (with_reducible exact ih1 _ _ _ _ _)
      | (with_reducible exact num_Int.mono _ _ _ _)
      | (with_reducible exact num_Long.mono _ _ _ _)
      | (with_reducible exact regletlaw01_holds.mono _)
      | (with_reducible exact LeO.refl _)
      | (with_reducible exact LeO.none _)
      | (with_reducible refine LeO.ite ?_ ?_)
      | (with_reducible refine LeO.bind ?_ (fun _ => ?_))
      | exact ih0 _ _ _ _ _ _ _
      | exact ih1 _ _ _ _ _
      | exact num_Int.mono _ _ _ _
      | exact num_Long.mono _ _ _ _
      | exact regletlaw01_holds.mono _
      | exact LeO.none _
      | refine LeO.ite ?_ ?_
      | refine LeO.bind ?_ (fun _ => ?_)
theorem regletlaw01_NumBits.mono : ∀ a0 a1 a2 k, LeO (regletlaw01_NumBits.f k a0 a1 a2) (regletlaw01_NumBits.f (k + 1) a0 a1 a2) := by
  intro a0 a1 a2 k
  obtain ⟨ih0, ih1⟩ := regletlaw01_NumBits.mono_l k
  unfold regletlaw01_NumBits.f
  repeat' first
      | (with_reducible exact ih0 _ _ _ _ _ _ _)
      | (with_reducible exact ih1 _ _ _ _ _)
      | (with_reducible exact num_Int.mono _ _ _ _)
      | (with_reducible exact num_Long.mono _ _ _ _)
      | (with_reducible exact regletlaw01_holds.mono _)
      | (with_reducible exact LeO.refl _)
      | (with_reducible exact LeO.none _)
      | (with_reducible refine LeO.ite ?_ ?_)
      | (with_reducible refine LeO.bind ?_ (fun _ => ?_))
      | exact ih0 _ _ _ _ _ _ _
      | exact ih1 _ _ _ _ _
      | exact num_Int.mono _ _ _ _
      | exact num_Long.mono _ _ _ _
      | exact regletlaw01_holds.mono _
      | exact LeO.none _
      | refine LeO.ite ?_ ?_
      | refine LeO.bind ?_ (fun _ => ?_)
set_option maxHeartbeats 8000000 in
set_option maxRecDepth 100000 in
theorem regletlaw01_NumBits.calls (k : Nat) (a0 : Int) (a1 : Int) (a2 : Int) (r : Bool) (w : World) (h : regletlaw01_NumBits.f k a0 a1 a2 = some r) :
    Calls Try.prog 8 #[.int .i64 a0, .int .i64 a1, .int .i64 a2] w fun e w' => e = .returned (.bool r) ∧ Below w.heap.size w w' := by
  have HB := Aside0.mk (Below.refl w.heap.size w)
  have H : ((regletlaw01_holds.f k).bind fun t108 => (if t108 = true then ((num_Long.f k 127 a0 a1).bind fun t109 => ((num_Long.f k 129 a0 a1).bind fun t110 => ((num_Long.f k 131 a0 a1).bind fun t111 => (regletlaw01_NumBits.l0 k a0 a1 a2 t109 t110 t111 0)))) else (some false))) = some r := h
  clear h
  replace H := Option.bind_eq_some_iff.mp H
  obtain ⟨t108, A40, H⟩ := H
  replace H : (if t108 = true then ((num_Long.f k 127 a0 a1).bind fun t109 => ((num_Long.f k 129 a0 a1).bind fun t110 => ((num_Long.f k 131 a0 a1).bind fun t111 => (regletlaw01_NumBits.l0 k a0 a1 a2 t109 t110 t111 0)))) else (some false)) = some r := H
  have A4 := Aside0.mk A40
  clear A40
  by_cases c5 : t108 = true
  · subst c5
    have H1 : ((num_Long.f k 127 a0 a1).bind fun t109 => ((num_Long.f k 129 a0 a1).bind fun t110 => ((num_Long.f k 131 a0 a1).bind fun t111 => (regletlaw01_NumBits.l0 k a0 a1 a2 t109 t110 t111 0)))) = some r := by rw [if_pos rfl] at H; exact H
    clear H
    have H := H1
    clear H1
    replace H := Option.bind_eq_some_iff.mp H
    obtain ⟨t109, A60, H⟩ := H
    replace H : ((num_Long.f k 129 a0 a1).bind fun t110 => ((num_Long.f k 131 a0 a1).bind fun t111 => (regletlaw01_NumBits.l0 k a0 a1 a2 t109 t110 t111 0))) = some r := H
    have A6 := Aside0.mk A60
    clear A60
    replace H := Option.bind_eq_some_iff.mp H
    obtain ⟨t110, A70, H⟩ := H
    replace H : ((num_Long.f k 131 a0 a1).bind fun t111 => (regletlaw01_NumBits.l0 k a0 a1 a2 t109 t110 t111 0)) = some r := H
    have A7 := Aside0.mk A70
    clear A70
    replace H := Option.bind_eq_some_iff.mp H
    obtain ⟨t111, A80, H⟩ := H
    replace H : (regletlaw01_NumBits.l0 k a0 a1 a2 t109 t110 t111 0) = some r := H
    have A8 := Aside0.mk A80
    clear A80
    have H' := Aside0.mk H
    clear H
    go_enter Try.func8, Try.ntmps8
    go_wp2_with (first | (go_at_call 12; (with_reducible refine (regletlaw01_holds.calls k  true _ A4.out).mono ?_); rintro e w' ⟨rfl, ⟨nd, rfl⟩⟩; (try first | exact ⟨rfl, _, World.drewN_drewN _ _ _⟩ | exact ⟨rfl, _, Eq.trans (World.drewN_drewN _ _ _) (congrArg (World.drewN _) (Nat.add_assoc _ _ _))⟩)) | (go_at_call 15; (with_reducible refine (num_Long.calls k 127 a0 a1 t109 _ A6.out).mono ?_); rintro e w' ⟨rfl, ⟨nd, rfl⟩⟩; (try first | exact ⟨rfl, _, World.drewN_drewN _ _ _⟩ | exact ⟨rfl, _, Eq.trans (World.drewN_drewN _ _ _) (congrArg (World.drewN _) (Nat.add_assoc _ _ _))⟩)) | (go_at_call 15; (with_reducible refine (num_Long.calls k 129 a0 a1 t110 _ A7.out).mono ?_); rintro e w' ⟨rfl, ⟨nd, rfl⟩⟩; (try first | exact ⟨rfl, _, World.drewN_drewN _ _ _⟩ | exact ⟨rfl, _, Eq.trans (World.drewN_drewN _ _ _) (congrArg (World.drewN _) (Nat.add_assoc _ _ _))⟩)) | (go_at_call 15; (with_reducible refine (num_Long.calls k 131 a0 a1 t111 _ A8.out).mono ?_); rintro e w' ⟨rfl, ⟨nd, rfl⟩⟩; (try first | exact ⟨rfl, _, World.drewN_drewN _ _ _⟩ | exact ⟨rfl, _, Eq.trans (World.drewN_drewN _ _ _) (congrArg (World.drewN _) (Nat.add_assoc _ _ _))⟩)))
    repeat (go_quiet (first | (go_at_call 12; (with_reducible refine (regletlaw01_holds.calls k  true _ A4.out).mono ?_); rintro e w' ⟨rfl, ⟨nd, rfl⟩⟩; (try first | exact ⟨rfl, _, World.drewN_drewN _ _ _⟩ | exact ⟨rfl, _, Eq.trans (World.drewN_drewN _ _ _) (congrArg (World.drewN _) (Nat.add_assoc _ _ _))⟩)) | (go_at_call 15; (with_reducible refine (num_Long.calls k 127 a0 a1 t109 _ A6.out).mono ?_); rintro e w' ⟨rfl, ⟨nd, rfl⟩⟩; (try first | exact ⟨rfl, _, World.drewN_drewN _ _ _⟩ | exact ⟨rfl, _, Eq.trans (World.drewN_drewN _ _ _) (congrArg (World.drewN _) (Nat.add_assoc _ _ _))⟩)) | (go_at_call 15; (with_reducible refine (num_Long.calls k 129 a0 a1 t110 _ A7.out).mono ?_); rintro e w' ⟨rfl, ⟨nd, rfl⟩⟩; (try first | exact ⟨rfl, _, World.drewN_drewN _ _ _⟩ | exact ⟨rfl, _, Eq.trans (World.drewN_drewN _ _ _) (congrArg (World.drewN _) (Nat.add_assoc _ _ _))⟩)) | (go_at_call 15; (with_reducible refine (num_Long.calls k 131 a0 a1 t111 _ A8.out).mono ?_); rintro e w' ⟨rfl, ⟨nd, rfl⟩⟩; (try first | exact ⟨rfl, _, World.drewN_drewN _ _ _⟩ | exact ⟨rfl, _, Eq.trans (World.drewN_drewN _ _ _) (congrArg (World.drewN _) (Nat.add_assoc _ _ _))⟩))); try go_wp2_with (first | (go_at_call 12; (with_reducible refine (regletlaw01_holds.calls k  true _ A4.out).mono ?_); rintro e w' ⟨rfl, ⟨nd, rfl⟩⟩; (try first | exact ⟨rfl, _, World.drewN_drewN _ _ _⟩ | exact ⟨rfl, _, Eq.trans (World.drewN_drewN _ _ _) (congrArg (World.drewN _) (Nat.add_assoc _ _ _))⟩)) | (go_at_call 15; (with_reducible refine (num_Long.calls k 127 a0 a1 t109 _ A6.out).mono ?_); rintro e w' ⟨rfl, ⟨nd, rfl⟩⟩; (try first | exact ⟨rfl, _, World.drewN_drewN _ _ _⟩ | exact ⟨rfl, _, Eq.trans (World.drewN_drewN _ _ _) (congrArg (World.drewN _) (Nat.add_assoc _ _ _))⟩)) | (go_at_call 15; (with_reducible refine (num_Long.calls k 129 a0 a1 t110 _ A7.out).mono ?_); rintro e w' ⟨rfl, ⟨nd, rfl⟩⟩; (try first | exact ⟨rfl, _, World.drewN_drewN _ _ _⟩ | exact ⟨rfl, _, Eq.trans (World.drewN_drewN _ _ _) (congrArg (World.drewN _) (Nat.add_assoc _ _ _))⟩)) | (go_at_call 15; (with_reducible refine (num_Long.calls k 131 a0 a1 t111 _ A8.out).mono ?_); rintro e w' ⟨rfl, ⟨nd, rfl⟩⟩; (try first | exact ⟨rfl, _, World.drewN_drewN _ _ _⟩ | exact ⟨rfl, _, Eq.trans (World.drewN_drewN _ _ _) (congrArg (World.drewN _) (Nat.add_assoc _ _ _))⟩))))
    go_loopg [26] k (fun kq v26 w' => ∃ (x26_1 : Int), v26 = .int .i64 x26_1 ∧ Aside0 (regletlaw01_NumBits.l0 kq a0 a1 a2 t109 t110 t111 x26_1 = some r) ∧ Aside0 (kq ≤ k) ∧ Aside0 (Below w.heap.size w w'))
    case atStart => exact ⟨(0), (by first | rfl | (simp; done) | (simp [*]; done)), H', ⟨Nat.le_refl _⟩, ⟨by repeat (first | (with_reducible first | exact HB.out | apply below_alloc | apply pw_below_drewN | apply below_drew1) | exact HB.out)⟩⟩
    case round =>
      clear H'
      try clear p2
      try clear c5
      try clear c8
      obtain ⟨x26_1, rfl, HA, HK1, HB⟩ := hrel
      cases gk with
      | zero => exact absurd HA.out (by simp [regletlaw01_NumBits.l0])
      | succ k1 =>
        have H := HA.out
        clear HA
        simp only [regletlaw01_NumBits.l0] at H
        by_cases c9 : x26_1 < 64
        · rw [if_pos c9] at H
          have c9b0 : decide (x26_1 < 64) = true := decide_eq_true c9
          clear c9
          by_cases c10 : 0 ≤ x26_1
          · rw [if_pos c10] at H
            have c10b0 := eq_true c10
            have c10b1 : decide (0 ≤ x26_1) = true := decide_eq_true c10
            clear c10
            obtain ⟨ji11, hji11⟩ : ∃ j_ : Int, (shr .i64 a0 x26_1) = j_ := ⟨_, rfl⟩
            replace H : (if (Go.bits .and .i64 (shr .i64 t109 x26_1) 1) = (wrap64 ((Go.bits .and .i64 (ji11) 1) * (Go.bits .and .i64 (shr .i64 a1 x26_1) 1))) then (if (Go.bits .and .i64 (shr .i64 t110 x26_1) 1) = (mx (Go.bits .and .i64 (ji11) 1) (Go.bits .and .i64 (shr .i64 a1 x26_1) 1)) then (if (Go.bits .and .i64 (shr .i64 t111 x26_1) 1) = (Go.bits .and .i64 (wrap64 ((Go.bits .and .i64 (ji11) 1) + (Go.bits .and .i64 (shr .i64 a1 x26_1) 1))) 1) then (regletlaw01_NumBits.l0 k1 a0 a1 a2 t109 t110 t111 (wrap64 (x26_1 + 1))) else (some false)) else (some false)) else (some false)) = some r := by first | (rw [hji11] at H; exact H) | (simp only [hji11] at H ⊢; exact H)
            have hji11_ : (a0 / 2 ^ min x26_1.toNat 64) = ji11 := hji11
            have hji11z : x26_1 ≤ 64 → (a0 / 2 ^ x26_1.toNat) = ji11 := shr_small hji11
            have c12b0 := eq_true (of_decide_eq_true (by first | (with_reducible assumption) | assumption) : 0 ≤ x26_1)
            obtain ⟨ji13, hji13⟩ : ∃ j_ : Int, (shr .i64 a1 x26_1) = j_ := ⟨_, rfl⟩
            replace H : (if (Go.bits .and .i64 (shr .i64 t109 x26_1) 1) = (wrap64 ((Go.bits .and .i64 (ji11) 1) * (Go.bits .and .i64 (ji13) 1))) then (if (Go.bits .and .i64 (shr .i64 t110 x26_1) 1) = (mx (Go.bits .and .i64 (ji11) 1) (Go.bits .and .i64 (ji13) 1)) then (if (Go.bits .and .i64 (shr .i64 t111 x26_1) 1) = (Go.bits .and .i64 (wrap64 ((Go.bits .and .i64 (ji11) 1) + (Go.bits .and .i64 (ji13) 1))) 1) then (regletlaw01_NumBits.l0 k1 a0 a1 a2 t109 t110 t111 (wrap64 (x26_1 + 1))) else (some false)) else (some false)) else (some false)) = some r := by first | (rw [hji13] at H; exact H) | (simp only [hji13] at H ⊢; exact H)
            have hji13_ : (a1 / 2 ^ min x26_1.toNat 64) = ji13 := hji13
            have hji13z : x26_1 ≤ 64 → (a1 / 2 ^ x26_1.toNat) = ji13 := shr_small hji13
            have c14b0 := eq_true (of_decide_eq_true (by first | (with_reducible assumption) | assumption) : 0 ≤ x26_1)
            obtain ⟨ji15, hji15⟩ : ∃ j_ : Int, (shr .i64 t109 x26_1) = j_ := ⟨_, rfl⟩
            replace H : (if (Go.bits .and .i64 (ji15) 1) = (wrap64 ((Go.bits .and .i64 (ji11) 1) * (Go.bits .and .i64 (ji13) 1))) then (if (Go.bits .and .i64 (shr .i64 t110 x26_1) 1) = (mx (Go.bits .and .i64 (ji11) 1) (Go.bits .and .i64 (ji13) 1)) then (if (Go.bits .and .i64 (shr .i64 t111 x26_1) 1) = (Go.bits .and .i64 (wrap64 ((Go.bits .and .i64 (ji11) 1) + (Go.bits .and .i64 (ji13) 1))) 1) then (regletlaw01_NumBits.l0 k1 a0 a1 a2 t109 t110 t111 (wrap64 (x26_1 + 1))) else (some false)) else (some false)) else (some false)) = some r := by first | (rw [hji15] at H; exact H) | (simp only [hji15] at H ⊢; exact H)
            have hji15_ : (t109 / 2 ^ min x26_1.toNat 64) = ji15 := hji15
            have hji15z : x26_1 ≤ 64 → (t109 / 2 ^ x26_1.toNat) = ji15 := shr_small hji15
            by_cases c16 : (Go.bits .and .i64 (ji15) 1) = (wrap64 ((Go.bits .and .i64 (ji11) 1) * (Go.bits .and .i64 (ji13) 1)))
            · rw [if_pos c16] at H
              have c16b0 : ((Go.bits .and .i64 (ji15) 1) == (wrap64 ((Go.bits .and .i64 (ji11) 1) * (Go.bits .and .i64 (ji13) 1)))) = true := beq_iff_eq.mpr c16
              have c16b1 : ((Go.bits .and .i64 (ji15) 1) != (wrap64 ((Go.bits .and .i64 (ji11) 1) * (Go.bits .and .i64 (ji13) 1)))) = false := bne_eq_false_iff_eq.mpr c16
              clear c16
              have c17b0 := eq_true (of_decide_eq_true (by first | (with_reducible assumption) | assumption) : 0 ≤ x26_1)
              obtain ⟨ji18, hji18⟩ : ∃ j_ : Int, (shr .i64 t110 x26_1) = j_ := ⟨_, rfl⟩
              replace H : (if (Go.bits .and .i64 (ji18) 1) = (mx (Go.bits .and .i64 (ji11) 1) (Go.bits .and .i64 (ji13) 1)) then (if (Go.bits .and .i64 (shr .i64 t111 x26_1) 1) = (Go.bits .and .i64 (wrap64 ((Go.bits .and .i64 (ji11) 1) + (Go.bits .and .i64 (ji13) 1))) 1) then (regletlaw01_NumBits.l0 k1 a0 a1 a2 t109 t110 t111 (wrap64 (x26_1 + 1))) else (some false)) else (some false)) = some r := by first | (rw [hji18] at H; exact H) | (simp only [hji18] at H ⊢; exact H)
              have hji18_ : (t110 / 2 ^ min x26_1.toNat 64) = ji18 := hji18
              have hji18z : x26_1 ≤ 64 → (t110 / 2 ^ x26_1.toNat) = ji18 := shr_small hji18
              obtain ⟨ji19, hji19⟩ : ∃ j_ : Int, (mx (Go.bits .and .i64 (ji11) 1) (Go.bits .and .i64 (ji13) 1)) = j_ := ⟨_, rfl⟩
              replace H : (if (Go.bits .and .i64 (ji18) 1) = (ji19) then (if (Go.bits .and .i64 (shr .i64 t111 x26_1) 1) = (Go.bits .and .i64 (wrap64 ((Go.bits .and .i64 (ji11) 1) + (Go.bits .and .i64 (ji13) 1))) 1) then (regletlaw01_NumBits.l0 k1 a0 a1 a2 t109 t110 t111 (wrap64 (x26_1 + 1))) else (some false)) else (some false)) = some r := by first | (rw [hji19] at H; exact H) | (simp only [hji19] at H ⊢; exact H)
              have hji19_ : (if (Go.bits .and .i64 (ji11) 1) < (Go.bits .and .i64 (ji13) 1) then (Go.bits .and .i64 (ji13) 1) else (Go.bits .and .i64 (ji11) 1)) = ji19 := hji19
              by_cases c20 : (Go.bits .and .i64 (ji18) 1) = (ji19)
              · rw [if_pos c20] at H
                have c20b0 : ((Go.bits .and .i64 (ji18) 1) == (ji19)) = true := beq_iff_eq.mpr c20
                have c20b1 : ((Go.bits .and .i64 (ji18) 1) != (ji19)) = false := bne_eq_false_iff_eq.mpr c20
                clear c20
                have c21b0 := eq_true (of_decide_eq_true (by first | (with_reducible assumption) | assumption) : 0 ≤ x26_1)
                obtain ⟨ji22, hji22⟩ : ∃ j_ : Int, (shr .i64 t111 x26_1) = j_ := ⟨_, rfl⟩
                replace H : (if (Go.bits .and .i64 (ji22) 1) = (Go.bits .and .i64 (wrap64 ((Go.bits .and .i64 (ji11) 1) + (Go.bits .and .i64 (ji13) 1))) 1) then (regletlaw01_NumBits.l0 k1 a0 a1 a2 t109 t110 t111 (wrap64 (x26_1 + 1))) else (some false)) = some r := by first | (rw [hji22] at H; exact H) | (simp only [hji22] at H ⊢; exact H)
                have hji22_ : (t111 / 2 ^ min x26_1.toNat 64) = ji22 := hji22
                have hji22z : x26_1 ≤ 64 → (t111 / 2 ^ x26_1.toNat) = ji22 := shr_small hji22
                by_cases c23 : (Go.bits .and .i64 (ji22) 1) = (Go.bits .and .i64 (wrap64 ((Go.bits .and .i64 (ji11) 1) + (Go.bits .and .i64 (ji13) 1))) 1)
                · rw [if_pos c23] at H
                  have c23b0 : ((Go.bits .and .i64 (ji22) 1) == (Go.bits .and .i64 (wrap64 ((Go.bits .and .i64 (ji11) 1) + (Go.bits .and .i64 (ji13) 1))) 1)) = true := beq_iff_eq.mpr c23
                  have c23b1 : ((Go.bits .and .i64 (ji22) 1) != (Go.bits .and .i64 (wrap64 ((Go.bits .and .i64 (ji11) 1) + (Go.bits .and .i64 (ji13) 1))) 1)) = false := bne_eq_false_iff_eq.mpr c23
                  clear c23
                  have H' := Aside0.mk H
                  clear H
                  go_wp2
                  repeat (go_quiet (fail); try go_wp2)
                  go_roundg k1
                  case measure => have := HK1.out; omega
                  case rel => exact ⟨(wrap64 (x26_1 + 1)), (by first | rfl | (simp; done) | (simp [*]; done)), H', ⟨by have := HK1.out; omega⟩, ⟨by repeat (first | (with_reducible first | exact HB.out | apply below_alloc | apply pw_below_drewN | apply below_drew1) | exact HB.out)⟩⟩
                · rw [if_neg c23] at H
                  have c23b0 : ((Go.bits .and .i64 (ji22) 1) == (Go.bits .and .i64 (wrap64 ((Go.bits .and .i64 (ji11) 1) + (Go.bits .and .i64 (ji13) 1))) 1)) = false := beq_eq_false_iff_ne.mpr c23
                  have c23b1 : ((Go.bits .and .i64 (ji22) 1) != (Go.bits .and .i64 (wrap64 ((Go.bits .and .i64 (ji11) 1) + (Go.bits .and .i64 (ji13) 1))) 1)) = true := bne_iff_ne.mpr c23
                  obtain rfl := Option.some.inj H
                  go_wp2
                  repeat (go_quiet (fail); try go_wp2)
                  go_ret
                  exact ⟨by first | rfl | (simp [errW_none, errW_some] <;> rfl) | (simp only [← hji11, ← hji13, ← hji15, ← hji18, ← hji19, ← hji22]; first | rfl | (simp [errW_none, errW_some] <;> rfl)) | (simp [*, errW_none, errW_some] <;> rfl), by repeat (first | (with_reducible first | exact HB.out | apply below_alloc | apply pw_below_drewN | apply below_drew1) | exact HB.out)⟩
              · rw [if_neg c20] at H
                have c20b0 : ((Go.bits .and .i64 (ji18) 1) == (ji19)) = false := beq_eq_false_iff_ne.mpr c20
                have c20b1 : ((Go.bits .and .i64 (ji18) 1) != (ji19)) = true := bne_iff_ne.mpr c20
                obtain rfl := Option.some.inj H
                go_wp2
                repeat (go_quiet (fail); try go_wp2)
                go_ret
                exact ⟨by first | rfl | (simp [errW_none, errW_some] <;> rfl) | (simp only [← hji11, ← hji13, ← hji15, ← hji18, ← hji19]; first | rfl | (simp [errW_none, errW_some] <;> rfl)) | (simp [*, errW_none, errW_some] <;> rfl), by repeat (first | (with_reducible first | exact HB.out | apply below_alloc | apply pw_below_drewN | apply below_drew1) | exact HB.out)⟩
            · rw [if_neg c16] at H
              have c16b0 : ((Go.bits .and .i64 (ji15) 1) == (wrap64 ((Go.bits .and .i64 (ji11) 1) * (Go.bits .and .i64 (ji13) 1)))) = false := beq_eq_false_iff_ne.mpr c16
              have c16b1 : ((Go.bits .and .i64 (ji15) 1) != (wrap64 ((Go.bits .and .i64 (ji11) 1) * (Go.bits .and .i64 (ji13) 1)))) = true := bne_iff_ne.mpr c16
              obtain rfl := Option.some.inj H
              go_wp2
              repeat (go_quiet (fail); try go_wp2)
              go_ret
              exact ⟨by first | rfl | (simp [errW_none, errW_some] <;> rfl) | (simp only [← hji11, ← hji13, ← hji15]; first | rfl | (simp [errW_none, errW_some] <;> rfl)) | (simp [*, errW_none, errW_some] <;> rfl), by repeat (first | (with_reducible first | exact HB.out | apply below_alloc | apply pw_below_drewN | apply below_drew1) | exact HB.out)⟩
          · rw [if_neg c10] at H
            exact absurd H (by simp)
        · rw [if_neg c9] at H
          have c9b0 : decide (x26_1 < 64) = false := decide_eq_false c9
          clear c9
          obtain ⟨y112, hy112⟩ : ∃ y_ : List Int, y_ = (([121, 123, 125] : List Int)) := ⟨_, rfl⟩
          replace H : (regletlaw01_NumBits.l1 k1 a0 a2 y112 (y112.length : Int) 0) = some r := by first | (rw [hy112]; with_reducible exact H) | (have H2_ := (Option.bind_some _ _).symm.trans H; rw [hy112]; with_reducible exact H2_) | (have H2_ := (Option.bind_some _ _).symm.trans H; with_reducible exact H2_) | with_reducible exact H | (rw [hy112]; exact H) | exact H
          have Ny112 := Aside0.mk hy112
          clear hy112
          have H' := Aside0.mk H
          clear H
          go_wp2_with (first | ((with_reducible refine gate_dst (N := 67) rfl ?_); (try (refine gate_guard (by rfl) ?_; dsimp only)); refine Kd.R_lit (Kd.int .i64) _ 3 ?hg (N := 67) ?hd (xs := ([121, 123, 125] : List Int)) (inner := [.int .i64 121, .int .i64 123, .int .i64 125]) (ok := fun _ => True) (okp := fun _ => True) ?hr ?hp (fun _ hk => hk) trivial (Below.refl _ _) (Nat.le_refl _) (by simp) ?_; (case hd => rfl); (case hg => rfl); (case hr => first | (go_simp; done) | (go_simp; rfl)); (case hp => exact (Reps.one (show Kd.M (Kd.int .i64) _ _ _ 121 [.int .i64 121] from rfl) (Reps.one (show Kd.M (Kd.int .i64) _ _ _ 123 [.int .i64 123] from rfl) (Reps.one (show Kd.M (Kd.int .i64) _ _ _ 125 [.int .i64 125] from rfl) (Reps.none _ _))))); intro v113 w24 ho25 hb hg_ hnew_; clear hg_ hnew_; (first | rw [← Ny112.out] at ho25 | (simp only [Int.reduceToNat] at ho25; rw [← Ny112.out] at ho25)); have n0_ := Aside0.mk (Kd.R_lower ho25 (below_size (by repeat (first | (with_reducible first | exact HB.out | apply below_alloc | apply pw_below_drewN | apply below_drew1) | exact HB.out)))); have n1_ := Aside0.mk (below_step (by repeat (first | (with_reducible first | exact HB.out | apply below_alloc | apply pw_below_drewN | apply below_drew1) | exact HB.out)) hb); clear HB; have HO114 := n0_; have HB := n1_; clear n0_ n1_; clear hb ho25; obtain ⟨Ao26, co26, eo26⟩ := Kd.R_slice HO114.out; subst eo26))
          repeat (go_quiet (first | ((with_reducible refine gate_dst (N := 67) rfl ?_); (try (refine gate_guard (by rfl) ?_; dsimp only)); refine Kd.R_lit (Kd.int .i64) _ 3 ?hg (N := 67) ?hd (xs := ([121, 123, 125] : List Int)) (inner := [.int .i64 121, .int .i64 123, .int .i64 125]) (ok := fun _ => True) (okp := fun _ => True) ?hr ?hp (fun _ hk => hk) trivial (Below.refl _ _) (Nat.le_refl _) (by simp) ?_; (case hd => rfl); (case hg => rfl); (case hr => first | (go_simp; done) | (go_simp; rfl)); (case hp => exact (Reps.one (show Kd.M (Kd.int .i64) _ _ _ 121 [.int .i64 121] from rfl) (Reps.one (show Kd.M (Kd.int .i64) _ _ _ 123 [.int .i64 123] from rfl) (Reps.one (show Kd.M (Kd.int .i64) _ _ _ 125 [.int .i64 125] from rfl) (Reps.none _ _))))); intro v113 w24 ho25 hb hg_ hnew_; clear hg_ hnew_; (first | rw [← Ny112.out] at ho25 | (simp only [Int.reduceToNat] at ho25; rw [← Ny112.out] at ho25)); have n0_ := Aside0.mk (Kd.R_lower ho25 (below_size (by repeat (first | (with_reducible first | exact HB.out | apply below_alloc | apply pw_below_drewN | apply below_drew1) | exact HB.out)))); have n1_ := Aside0.mk (below_step (by repeat (first | (with_reducible first | exact HB.out | apply below_alloc | apply pw_below_drewN | apply below_drew1) | exact HB.out)) hb); clear HB; have HO114 := n0_; have HB := n1_; clear n0_ n1_; clear hb ho25; obtain ⟨Ao26, co26, eo26⟩ := Kd.R_slice HO114.out; subst eo26)); try go_wp2_with (first | ((with_reducible refine gate_dst (N := 67) rfl ?_); (try (refine gate_guard (by rfl) ?_; dsimp only)); refine Kd.R_lit (Kd.int .i64) _ 3 ?hg (N := 67) ?hd (xs := ([121, 123, 125] : List Int)) (inner := [.int .i64 121, .int .i64 123, .int .i64 125]) (ok := fun _ => True) (okp := fun _ => True) ?hr ?hp (fun _ hk => hk) trivial (Below.refl _ _) (Nat.le_refl _) (by simp) ?_; (case hd => rfl); (case hg => rfl); (case hr => first | (go_simp; done) | (go_simp; rfl)); (case hp => exact (Reps.one (show Kd.M (Kd.int .i64) _ _ _ 121 [.int .i64 121] from rfl) (Reps.one (show Kd.M (Kd.int .i64) _ _ _ 123 [.int .i64 123] from rfl) (Reps.one (show Kd.M (Kd.int .i64) _ _ _ 125 [.int .i64 125] from rfl) (Reps.none _ _))))); intro v113 w24 ho25 hb hg_ hnew_; clear hg_ hnew_; (first | rw [← Ny112.out] at ho25 | (simp only [Int.reduceToNat] at ho25; rw [← Ny112.out] at ho25)); have n0_ := Aside0.mk (Kd.R_lower ho25 (below_size (by repeat (first | (with_reducible first | exact HB.out | apply below_alloc | apply pw_below_drewN | apply below_drew1) | exact HB.out)))); have n1_ := Aside0.mk (below_step (by repeat (first | (with_reducible first | exact HB.out | apply below_alloc | apply pw_below_drewN | apply below_drew1) | exact HB.out)) hb); clear HB; have HO114 := n0_; have HB := n1_; clear n0_ n1_; clear hb ho25; obtain ⟨Ao26, co26, eo26⟩ := Kd.R_slice HO114.out; subst eo26)))
          go_loopg [69] k1 (fun kq v69 w' => ∃ (x69_2 : Int), v69 = .int .i64 x69_2 ∧ Aside0 (regletlaw01_NumBits.l1 kq a0 a2 y112 (y112.length : Int) x69_2 = some r) ∧ Aside0 (kq ≤ k1) ∧ Aside0 (Kd.R (Kd.int .i64) 3 w' w.heap.size (fun _ => True) (.slice Ao26 y112.length co26) y112) ∧ Aside0 (Below w.heap.size w w'))
          case atStart => exact ⟨(0), (by first | rfl | (simp; done) | (simp [*]; done)), H', ⟨Nat.le_refl _⟩, ⟨by (with_reducible repeat (first | apply Kd.R_alloc | apply Kd.R_drewN | apply Kd.R_drew)); exact HO114.out⟩, ⟨by repeat (first | (with_reducible first | exact HB.out | apply below_alloc | apply pw_below_drewN | apply below_drew1) | exact HB.out)⟩⟩
          case round =>
            clear H'
            try clear c1
            try clear c2
            try clear p2
            try clear c5
            try clear p6
            try clear c8
            try clear c9
            try clear c9b0
            try clear c10
            try clear c10b0
            try clear c10b1
            try clear c12
            try clear c12b0
            try clear c14
            try clear c14b0
            try clear c16
            try clear c16b0
            try clear c16b1
            try clear c17
            try clear c17b0
            try clear c20
            try clear c20b0
            try clear c20b1
            try clear c21
            try clear c21b0
            try clear c23
            try clear c23b0
            try clear c23b1
            try clear p2
            obtain ⟨x69_2, rfl, HA, HK2, HO_67, HB⟩ := hrel
            cases gk with
            | zero => exact absurd HA.out (by simp [regletlaw01_NumBits.l1])
            | succ k2 =>
              have H := HA.out
              clear HA
              simp only [regletlaw01_NumBits.l1] at H
              by_cases c27 : x69_2 < (y112.length : Int)
              · rw [if_pos c27] at H
                have c27b0 : decide (x69_2 < (y112.length : Int)) = true := decide_eq_true c27
                clear c27
                by_cases c28 : 0 ≤ x69_2
                · rw [if_pos c28] at H
                  have c28b0 : decide (0 ≤ x69_2) = true := decide_eq_true c28
                  clear c28
                  by_cases c29 : x69_2 < (y112.length : Int)
                  · rw [if_pos c29] at H
                    have c29b0 : decide (x69_2 < (y112.length : Int)) = true := decide_eq_true c29
                    clear c29
                    replace H := Option.bind_eq_some_iff.mp H
                    obtain ⟨t116, A300, H⟩ := H
                    replace H : ((num_Long.f k2 (rd y112 x69_2) a0 (Go.bits .and .i64 a2 63)).bind fun t117 => (if t116 = t117 then ((num_Int.f k2 (wrap64 ((rd y112 x69_2) - 1)) (wrap32 (a0)) (wrap32 (a2))).bind fun t118 => ((num_Int.f k2 (wrap64 ((rd y112 x69_2) - 1)) (wrap32 (a0)) (Go.bits .and .i32 (wrap32 (a2)) 31)).bind fun t119 => (if t118 = t119 then (regletlaw01_NumBits.l1 k2 a0 a2 y112 (y112.length : Int) (wrap64 (x69_2 + 1))) else (some false)))) else (some false))) = some r := H
                    have A30 := Aside0.mk A300
                    clear A300
                    replace H := Option.bind_eq_some_iff.mp H
                    obtain ⟨t117, A310, H⟩ := H
                    replace H : (if t116 = t117 then ((num_Int.f k2 (wrap64 ((rd y112 x69_2) - 1)) (wrap32 (a0)) (wrap32 (a2))).bind fun t118 => ((num_Int.f k2 (wrap64 ((rd y112 x69_2) - 1)) (wrap32 (a0)) (Go.bits .and .i32 (wrap32 (a2)) 31)).bind fun t119 => (if t118 = t119 then (regletlaw01_NumBits.l1 k2 a0 a2 y112 (y112.length : Int) (wrap64 (x69_2 + 1))) else (some false)))) else (some false)) = some r := H
                    have A31 := Aside0.mk A310
                    clear A310
                    by_cases c32 : t116 = t117
                    · rw [if_pos c32] at H
                      have c32b0 : (t116 == t117) = true := beq_iff_eq.mpr c32
                      have c32b1 : (t116 != t117) = false := bne_eq_false_iff_eq.mpr c32
                      clear c32
                      replace H := Option.bind_eq_some_iff.mp H
                      obtain ⟨t118, A330, H⟩ := H
                      replace H : ((num_Int.f k2 (wrap64 ((rd y112 x69_2) - 1)) (wrap32 (a0)) (Go.bits .and .i32 (wrap32 (a2)) 31)).bind fun t119 => (if t118 = t119 then (regletlaw01_NumBits.l1 k2 a0 a2 y112 (y112.length : Int) (wrap64 (x69_2 + 1))) else (some false))) = some r := H
                      have A33 := Aside0.mk A330
                      clear A330
                      replace H := Option.bind_eq_some_iff.mp H
                      obtain ⟨t119, A340, H⟩ := H
                      replace H : (if t118 = t119 then (regletlaw01_NumBits.l1 k2 a0 a2 y112 (y112.length : Int) (wrap64 (x69_2 + 1))) else (some false)) = some r := H
                      have A34 := Aside0.mk A340
                      clear A340
                      by_cases c35 : t118 = t119
                      · rw [if_pos c35] at H
                        have c35b0 : (t118 == t119) = true := beq_iff_eq.mpr c35
                        have c35b1 : (t118 != t119) = false := bne_eq_false_iff_eq.mpr c35
                        clear c35
                        have H' := Aside0.mk H
                        clear H
                        have p115 : 0 ≤ (x69_2 : Int) := of_decide_eq_true (by first | (with_reducible assumption) | assumption)
                        have q115 : x69_2 < (y112.length : Int) := of_decide_eq_true (by first | (with_reducible assumption) | assumption)
                        obtain ⟨ad115, e115, hx115_0⟩ := Kd.at_int (Kd.R_reads' HO_67.out).2.2 x69_2 p115 q115
                        cases e115
                        replace p115 := eq_true p115
                        replace q115 := eq_true q115
                        go_wp2_with (first | (go_at_call 15; (with_reducible refine (num_Long.calls k2 (rd y112 x69_2) a0 a2 t116 _ A30.out).mono ?_); rintro e w' ⟨rfl, ⟨nd, rfl⟩⟩; (try first | exact ⟨rfl, _, World.drewN_drewN _ _ _⟩ | exact ⟨rfl, _, Eq.trans (World.drewN_drewN _ _ _) (congrArg (World.drewN _) (Nat.add_assoc _ _ _))⟩)) | (go_at_call 15; (with_reducible refine (num_Long.calls k2 (rd y112 x69_2) a0 (Go.bits .and .i64 a2 63) t117 _ A31.out).mono ?_); rintro e w' ⟨rfl, ⟨nd, rfl⟩⟩; (try first | exact ⟨rfl, _, World.drewN_drewN _ _ _⟩ | exact ⟨rfl, _, Eq.trans (World.drewN_drewN _ _ _) (congrArg (World.drewN _) (Nat.add_assoc _ _ _))⟩)) | (go_at_call 14; (with_reducible refine (num_Int.calls k2 (wrap64 ((rd y112 x69_2) - 1)) (wrap32 (a0)) (wrap32 (a2)) t118 _ A33.out).mono ?_); rintro e w' ⟨rfl, ⟨nd, rfl⟩⟩; (try first | exact ⟨rfl, _, World.drewN_drewN _ _ _⟩ | exact ⟨rfl, _, Eq.trans (World.drewN_drewN _ _ _) (congrArg (World.drewN _) (Nat.add_assoc _ _ _))⟩)) | (go_at_call 14; (with_reducible refine (num_Int.calls k2 (wrap64 ((rd y112 x69_2) - 1)) (wrap32 (a0)) (Go.bits .and .i32 (wrap32 (a2)) 31) t119 _ A34.out).mono ?_); rintro e w' ⟨rfl, ⟨nd, rfl⟩⟩; (try first | exact ⟨rfl, _, World.drewN_drewN _ _ _⟩ | exact ⟨rfl, _, Eq.trans (World.drewN_drewN _ _ _) (congrArg (World.drewN _) (Nat.add_assoc _ _ _))⟩)))
                        repeat (go_quiet (first | (go_at_call 15; (with_reducible refine (num_Long.calls k2 (rd y112 x69_2) a0 a2 t116 _ A30.out).mono ?_); rintro e w' ⟨rfl, ⟨nd, rfl⟩⟩; (try first | exact ⟨rfl, _, World.drewN_drewN _ _ _⟩ | exact ⟨rfl, _, Eq.trans (World.drewN_drewN _ _ _) (congrArg (World.drewN _) (Nat.add_assoc _ _ _))⟩)) | (go_at_call 15; (with_reducible refine (num_Long.calls k2 (rd y112 x69_2) a0 (Go.bits .and .i64 a2 63) t117 _ A31.out).mono ?_); rintro e w' ⟨rfl, ⟨nd, rfl⟩⟩; (try first | exact ⟨rfl, _, World.drewN_drewN _ _ _⟩ | exact ⟨rfl, _, Eq.trans (World.drewN_drewN _ _ _) (congrArg (World.drewN _) (Nat.add_assoc _ _ _))⟩)) | (go_at_call 14; (with_reducible refine (num_Int.calls k2 (wrap64 ((rd y112 x69_2) - 1)) (wrap32 (a0)) (wrap32 (a2)) t118 _ A33.out).mono ?_); rintro e w' ⟨rfl, ⟨nd, rfl⟩⟩; (try first | exact ⟨rfl, _, World.drewN_drewN _ _ _⟩ | exact ⟨rfl, _, Eq.trans (World.drewN_drewN _ _ _) (congrArg (World.drewN _) (Nat.add_assoc _ _ _))⟩)) | (go_at_call 14; (with_reducible refine (num_Int.calls k2 (wrap64 ((rd y112 x69_2) - 1)) (wrap32 (a0)) (Go.bits .and .i32 (wrap32 (a2)) 31) t119 _ A34.out).mono ?_); rintro e w' ⟨rfl, ⟨nd, rfl⟩⟩; (try first | exact ⟨rfl, _, World.drewN_drewN _ _ _⟩ | exact ⟨rfl, _, Eq.trans (World.drewN_drewN _ _ _) (congrArg (World.drewN _) (Nat.add_assoc _ _ _))⟩))); try go_wp2_with (first | (go_at_call 15; (with_reducible refine (num_Long.calls k2 (rd y112 x69_2) a0 a2 t116 _ A30.out).mono ?_); rintro e w' ⟨rfl, ⟨nd, rfl⟩⟩; (try first | exact ⟨rfl, _, World.drewN_drewN _ _ _⟩ | exact ⟨rfl, _, Eq.trans (World.drewN_drewN _ _ _) (congrArg (World.drewN _) (Nat.add_assoc _ _ _))⟩)) | (go_at_call 15; (with_reducible refine (num_Long.calls k2 (rd y112 x69_2) a0 (Go.bits .and .i64 a2 63) t117 _ A31.out).mono ?_); rintro e w' ⟨rfl, ⟨nd, rfl⟩⟩; (try first | exact ⟨rfl, _, World.drewN_drewN _ _ _⟩ | exact ⟨rfl, _, Eq.trans (World.drewN_drewN _ _ _) (congrArg (World.drewN _) (Nat.add_assoc _ _ _))⟩)) | (go_at_call 14; (with_reducible refine (num_Int.calls k2 (wrap64 ((rd y112 x69_2) - 1)) (wrap32 (a0)) (wrap32 (a2)) t118 _ A33.out).mono ?_); rintro e w' ⟨rfl, ⟨nd, rfl⟩⟩; (try first | exact ⟨rfl, _, World.drewN_drewN _ _ _⟩ | exact ⟨rfl, _, Eq.trans (World.drewN_drewN _ _ _) (congrArg (World.drewN _) (Nat.add_assoc _ _ _))⟩)) | (go_at_call 14; (with_reducible refine (num_Int.calls k2 (wrap64 ((rd y112 x69_2) - 1)) (wrap32 (a0)) (Go.bits .and .i32 (wrap32 (a2)) 31) t119 _ A34.out).mono ?_); rintro e w' ⟨rfl, ⟨nd, rfl⟩⟩; (try first | exact ⟨rfl, _, World.drewN_drewN _ _ _⟩ | exact ⟨rfl, _, Eq.trans (World.drewN_drewN _ _ _) (congrArg (World.drewN _) (Nat.add_assoc _ _ _))⟩))))
                        go_roundg k2
                        case measure => have := HK1.out; have := HK2.out; omega
                        case rel => exact ⟨(wrap64 (x69_2 + 1)), (by first | rfl | (simp; done) | (simp [*]; done)), H', ⟨by have := HK1.out; have := HK2.out; omega⟩, ⟨by (with_reducible repeat (first | apply Kd.R_alloc | apply Kd.R_drewN | apply Kd.R_drew)); exact HO_67.out⟩, ⟨by repeat (first | (with_reducible first | exact HB.out | apply below_alloc | apply pw_below_drewN | apply below_drew1) | exact HB.out)⟩⟩
                      · rw [if_neg c35] at H
                        have c35b0 : (t118 == t119) = false := beq_eq_false_iff_ne.mpr c35
                        have c35b1 : (t118 != t119) = true := bne_iff_ne.mpr c35
                        obtain rfl := Option.some.inj H
                        have p115 : 0 ≤ (x69_2 : Int) := of_decide_eq_true (by first | (with_reducible assumption) | assumption)
                        have q115 : x69_2 < (y112.length : Int) := of_decide_eq_true (by first | (with_reducible assumption) | assumption)
                        obtain ⟨ad115, e115, hx115_0⟩ := Kd.at_int (Kd.R_reads' HO_67.out).2.2 x69_2 p115 q115
                        cases e115
                        replace p115 := eq_true p115
                        replace q115 := eq_true q115
                        go_wp2_with (first | (go_at_call 15; (with_reducible refine (num_Long.calls k2 (rd y112 x69_2) a0 a2 t116 _ A30.out).mono ?_); rintro e w' ⟨rfl, ⟨nd, rfl⟩⟩; (try first | exact ⟨rfl, _, World.drewN_drewN _ _ _⟩ | exact ⟨rfl, _, Eq.trans (World.drewN_drewN _ _ _) (congrArg (World.drewN _) (Nat.add_assoc _ _ _))⟩)) | (go_at_call 15; (with_reducible refine (num_Long.calls k2 (rd y112 x69_2) a0 (Go.bits .and .i64 a2 63) t117 _ A31.out).mono ?_); rintro e w' ⟨rfl, ⟨nd, rfl⟩⟩; (try first | exact ⟨rfl, _, World.drewN_drewN _ _ _⟩ | exact ⟨rfl, _, Eq.trans (World.drewN_drewN _ _ _) (congrArg (World.drewN _) (Nat.add_assoc _ _ _))⟩)) | (go_at_call 14; (with_reducible refine (num_Int.calls k2 (wrap64 ((rd y112 x69_2) - 1)) (wrap32 (a0)) (wrap32 (a2)) t118 _ A33.out).mono ?_); rintro e w' ⟨rfl, ⟨nd, rfl⟩⟩; (try first | exact ⟨rfl, _, World.drewN_drewN _ _ _⟩ | exact ⟨rfl, _, Eq.trans (World.drewN_drewN _ _ _) (congrArg (World.drewN _) (Nat.add_assoc _ _ _))⟩)) | (go_at_call 14; (with_reducible refine (num_Int.calls k2 (wrap64 ((rd y112 x69_2) - 1)) (wrap32 (a0)) (Go.bits .and .i32 (wrap32 (a2)) 31) t119 _ A34.out).mono ?_); rintro e w' ⟨rfl, ⟨nd, rfl⟩⟩; (try first | exact ⟨rfl, _, World.drewN_drewN _ _ _⟩ | exact ⟨rfl, _, Eq.trans (World.drewN_drewN _ _ _) (congrArg (World.drewN _) (Nat.add_assoc _ _ _))⟩)))
                        repeat (go_quiet (first | (go_at_call 15; (with_reducible refine (num_Long.calls k2 (rd y112 x69_2) a0 a2 t116 _ A30.out).mono ?_); rintro e w' ⟨rfl, ⟨nd, rfl⟩⟩; (try first | exact ⟨rfl, _, World.drewN_drewN _ _ _⟩ | exact ⟨rfl, _, Eq.trans (World.drewN_drewN _ _ _) (congrArg (World.drewN _) (Nat.add_assoc _ _ _))⟩)) | (go_at_call 15; (with_reducible refine (num_Long.calls k2 (rd y112 x69_2) a0 (Go.bits .and .i64 a2 63) t117 _ A31.out).mono ?_); rintro e w' ⟨rfl, ⟨nd, rfl⟩⟩; (try first | exact ⟨rfl, _, World.drewN_drewN _ _ _⟩ | exact ⟨rfl, _, Eq.trans (World.drewN_drewN _ _ _) (congrArg (World.drewN _) (Nat.add_assoc _ _ _))⟩)) | (go_at_call 14; (with_reducible refine (num_Int.calls k2 (wrap64 ((rd y112 x69_2) - 1)) (wrap32 (a0)) (wrap32 (a2)) t118 _ A33.out).mono ?_); rintro e w' ⟨rfl, ⟨nd, rfl⟩⟩; (try first | exact ⟨rfl, _, World.drewN_drewN _ _ _⟩ | exact ⟨rfl, _, Eq.trans (World.drewN_drewN _ _ _) (congrArg (World.drewN _) (Nat.add_assoc _ _ _))⟩)) | (go_at_call 14; (with_reducible refine (num_Int.calls k2 (wrap64 ((rd y112 x69_2) - 1)) (wrap32 (a0)) (Go.bits .and .i32 (wrap32 (a2)) 31) t119 _ A34.out).mono ?_); rintro e w' ⟨rfl, ⟨nd, rfl⟩⟩; (try first | exact ⟨rfl, _, World.drewN_drewN _ _ _⟩ | exact ⟨rfl, _, Eq.trans (World.drewN_drewN _ _ _) (congrArg (World.drewN _) (Nat.add_assoc _ _ _))⟩))); try go_wp2_with (first | (go_at_call 15; (with_reducible refine (num_Long.calls k2 (rd y112 x69_2) a0 a2 t116 _ A30.out).mono ?_); rintro e w' ⟨rfl, ⟨nd, rfl⟩⟩; (try first | exact ⟨rfl, _, World.drewN_drewN _ _ _⟩ | exact ⟨rfl, _, Eq.trans (World.drewN_drewN _ _ _) (congrArg (World.drewN _) (Nat.add_assoc _ _ _))⟩)) | (go_at_call 15; (with_reducible refine (num_Long.calls k2 (rd y112 x69_2) a0 (Go.bits .and .i64 a2 63) t117 _ A31.out).mono ?_); rintro e w' ⟨rfl, ⟨nd, rfl⟩⟩; (try first | exact ⟨rfl, _, World.drewN_drewN _ _ _⟩ | exact ⟨rfl, _, Eq.trans (World.drewN_drewN _ _ _) (congrArg (World.drewN _) (Nat.add_assoc _ _ _))⟩)) | (go_at_call 14; (with_reducible refine (num_Int.calls k2 (wrap64 ((rd y112 x69_2) - 1)) (wrap32 (a0)) (wrap32 (a2)) t118 _ A33.out).mono ?_); rintro e w' ⟨rfl, ⟨nd, rfl⟩⟩; (try first | exact ⟨rfl, _, World.drewN_drewN _ _ _⟩ | exact ⟨rfl, _, Eq.trans (World.drewN_drewN _ _ _) (congrArg (World.drewN _) (Nat.add_assoc _ _ _))⟩)) | (go_at_call 14; (with_reducible refine (num_Int.calls k2 (wrap64 ((rd y112 x69_2) - 1)) (wrap32 (a0)) (Go.bits .and .i32 (wrap32 (a2)) 31) t119 _ A34.out).mono ?_); rintro e w' ⟨rfl, ⟨nd, rfl⟩⟩; (try first | exact ⟨rfl, _, World.drewN_drewN _ _ _⟩ | exact ⟨rfl, _, Eq.trans (World.drewN_drewN _ _ _) (congrArg (World.drewN _) (Nat.add_assoc _ _ _))⟩))))
                        go_ret
                        exact ⟨by first | rfl | (simp [errW_none, errW_some] <;> rfl) | (simp [*, errW_none, errW_some] <;> rfl), by repeat (first | (with_reducible first | exact HB.out | apply below_alloc | apply pw_below_drewN | apply below_drew1) | exact HB.out)⟩
                    · rw [if_neg c32] at H
                      have c32b0 : (t116 == t117) = false := beq_eq_false_iff_ne.mpr c32
                      have c32b1 : (t116 != t117) = true := bne_iff_ne.mpr c32
                      obtain rfl := Option.some.inj H
                      have p115 : 0 ≤ (x69_2 : Int) := of_decide_eq_true (by first | (with_reducible assumption) | assumption)
                      have q115 : x69_2 < (y112.length : Int) := of_decide_eq_true (by first | (with_reducible assumption) | assumption)
                      obtain ⟨ad115, e115, hx115_0⟩ := Kd.at_int (Kd.R_reads' HO_67.out).2.2 x69_2 p115 q115
                      cases e115
                      replace p115 := eq_true p115
                      replace q115 := eq_true q115
                      go_wp2_with (first | (go_at_call 15; (with_reducible refine (num_Long.calls k2 (rd y112 x69_2) a0 a2 t116 _ A30.out).mono ?_); rintro e w' ⟨rfl, ⟨nd, rfl⟩⟩; (try first | exact ⟨rfl, _, World.drewN_drewN _ _ _⟩ | exact ⟨rfl, _, Eq.trans (World.drewN_drewN _ _ _) (congrArg (World.drewN _) (Nat.add_assoc _ _ _))⟩)) | (go_at_call 15; (with_reducible refine (num_Long.calls k2 (rd y112 x69_2) a0 (Go.bits .and .i64 a2 63) t117 _ A31.out).mono ?_); rintro e w' ⟨rfl, ⟨nd, rfl⟩⟩; (try first | exact ⟨rfl, _, World.drewN_drewN _ _ _⟩ | exact ⟨rfl, _, Eq.trans (World.drewN_drewN _ _ _) (congrArg (World.drewN _) (Nat.add_assoc _ _ _))⟩)))
                      repeat (go_quiet (first | (go_at_call 15; (with_reducible refine (num_Long.calls k2 (rd y112 x69_2) a0 a2 t116 _ A30.out).mono ?_); rintro e w' ⟨rfl, ⟨nd, rfl⟩⟩; (try first | exact ⟨rfl, _, World.drewN_drewN _ _ _⟩ | exact ⟨rfl, _, Eq.trans (World.drewN_drewN _ _ _) (congrArg (World.drewN _) (Nat.add_assoc _ _ _))⟩)) | (go_at_call 15; (with_reducible refine (num_Long.calls k2 (rd y112 x69_2) a0 (Go.bits .and .i64 a2 63) t117 _ A31.out).mono ?_); rintro e w' ⟨rfl, ⟨nd, rfl⟩⟩; (try first | exact ⟨rfl, _, World.drewN_drewN _ _ _⟩ | exact ⟨rfl, _, Eq.trans (World.drewN_drewN _ _ _) (congrArg (World.drewN _) (Nat.add_assoc _ _ _))⟩))); try go_wp2_with (first | (go_at_call 15; (with_reducible refine (num_Long.calls k2 (rd y112 x69_2) a0 a2 t116 _ A30.out).mono ?_); rintro e w' ⟨rfl, ⟨nd, rfl⟩⟩; (try first | exact ⟨rfl, _, World.drewN_drewN _ _ _⟩ | exact ⟨rfl, _, Eq.trans (World.drewN_drewN _ _ _) (congrArg (World.drewN _) (Nat.add_assoc _ _ _))⟩)) | (go_at_call 15; (with_reducible refine (num_Long.calls k2 (rd y112 x69_2) a0 (Go.bits .and .i64 a2 63) t117 _ A31.out).mono ?_); rintro e w' ⟨rfl, ⟨nd, rfl⟩⟩; (try first | exact ⟨rfl, _, World.drewN_drewN _ _ _⟩ | exact ⟨rfl, _, Eq.trans (World.drewN_drewN _ _ _) (congrArg (World.drewN _) (Nat.add_assoc _ _ _))⟩))))
                      go_ret
                      exact ⟨by first | rfl | (simp [errW_none, errW_some] <;> rfl) | (simp [*, errW_none, errW_some] <;> rfl), by repeat (first | (with_reducible first | exact HB.out | apply below_alloc | apply pw_below_drewN | apply below_drew1) | exact HB.out)⟩
                  · rw [if_neg c29] at H
                    exact absurd H (by simp)
                · rw [if_neg c28] at H
                  exact absurd H (by simp)
              · rw [if_neg c27] at H
                have c27b0 : decide (x69_2 < (y112.length : Int)) = false := decide_eq_false c27
                clear c27
                obtain rfl := Option.some.inj H
                go_wp2
                repeat (go_quiet (fail); try go_wp2)
                go_ret
                exact ⟨by first | rfl | (simp [errW_none, errW_some] <;> rfl) | (simp [*, errW_none, errW_some] <;> rfl), by repeat (first | (with_reducible first | exact HB.out | apply below_alloc | apply pw_below_drewN | apply below_drew1) | exact HB.out)⟩
  · replace c5 := Bool.eq_false_iff.mpr c5
    subst c5
    have H1 : (some false) = some r := by rw [if_neg (show ¬ (false = true) by decide)] at H; exact H
    clear H
    have H := H1
    clear H1
    obtain rfl := Option.some.inj H
    go_enter Try.func8, Try.ntmps8
    go_wp2_with (first | (go_at_call 12; (with_reducible refine (regletlaw01_holds.calls k  false _ A4.out).mono ?_); rintro e w' ⟨rfl, ⟨nd, rfl⟩⟩; (try first | exact ⟨rfl, _, World.drewN_drewN _ _ _⟩ | exact ⟨rfl, _, Eq.trans (World.drewN_drewN _ _ _) (congrArg (World.drewN _) (Nat.add_assoc _ _ _))⟩)))
    repeat (go_quiet (first | (go_at_call 12; (with_reducible refine (regletlaw01_holds.calls k  false _ A4.out).mono ?_); rintro e w' ⟨rfl, ⟨nd, rfl⟩⟩; (try first | exact ⟨rfl, _, World.drewN_drewN _ _ _⟩ | exact ⟨rfl, _, Eq.trans (World.drewN_drewN _ _ _) (congrArg (World.drewN _) (Nat.add_assoc _ _ _))⟩))); try go_wp2_with (first | (go_at_call 12; (with_reducible refine (regletlaw01_holds.calls k  false _ A4.out).mono ?_); rintro e w' ⟨rfl, ⟨nd, rfl⟩⟩; (try first | exact ⟨rfl, _, World.drewN_drewN _ _ _⟩ | exact ⟨rfl, _, Eq.trans (World.drewN_drewN _ _ _) (congrArg (World.drewN _) (Nat.add_assoc _ _ _))⟩))))
    go_ret
    exact ⟨by first | rfl | (simp [errW_none, errW_some] <;> rfl) | (simp [*, errW_none, errW_some] <;> rfl), by repeat (first | (with_reducible first | exact HB.out | apply below_alloc | apply pw_below_drewN | apply below_drew1) | exact HB.out)⟩

/-- THE ONE PURE STATEMENT of regletlaw01_NumBits: yours. -/
def regletlaw01_NumBits.Pure : Prop := ∀ (a0 : Int) (a1 : Int) (a2 : Int), (Lit.int .i64 a0).wf = true → (Lit.int .i64 a1).wf = true → (Lit.int .i64 a2).wf = true → ∃ k, regletlaw01_NumBits.f k a0 a1 a2 = some true
theorem regletlaw01_NumBits.walk (P : regletlaw01_NumBits.Pure) (a0 : Int) (a1 : Int) (a2 : Int) (w : World) (w0 : (Lit.int .i64 a0).wf = true) (w1 : (Lit.int .i64 a1).wf = true) (w2 : (Lit.int .i64 a2).wf = true) :
    Calls Try.prog 8 #[.int .i64 a0, .int .i64 a1, .int .i64 a2] w fun e w' => e = .returned (.bool true) ∧ Below w.heap.size w w' := by
  obtain ⟨k, h⟩ := P a0 a1 a2 w0 w1 w2
  refine (regletlaw01_NumBits.calls k a0 a1 a2 true w h).mono ?_
  rintro e w' ⟨rfl, hd⟩
  exact ⟨rfl, hd⟩

end Go.Proofs.Ytmgeihpankhkcaa.PNumBits
