-- PRINTED BY print.sh 35421559b90ae4d0a3588c463048766b98c2df88dd9212a6774a882060cdf62d: not written by this session
import Derived.Test.YtmgeihpankhkcaaPNumMovesx0
import Derived.Test.YtmgeihpankhkcaaPNumMovesx1
namespace Go.Proofs.Ytmgeihpankhkcaa.PNumMoves
open Go.RowKit Go.Proofs.YtmgeihpankhkcaaW.PrintWords Go.Proofs.YtmgeihpankhkcaaW.PrintLast Go.Proofs.YtmgeihpankhkcaaW.PrintMore
attribute [local go_sem] max2_int min2_int max_two min_two max_three min_three max_four min_four   -- for this text's walks alone
set_option linter.unusedVariables false
set_option linter.unusedSimpArgs false

/-! ### regletlaw01_low: function 16 -/
def regletlaw01_low.f (a0 : Int) (a1 : Int) : Option (Int) := if a1 ≥ 64 then (some a0) else (if 0 ≤ a1 then (some (Go.bits .and .i64 a0 (wrap64 ((shl .i64 1 a1) - 1)))) else (none))
set_option maxHeartbeats 8000000 in
set_option maxRecDepth 100000 in
theorem regletlaw01_low.calls (a0 : Int) (a1 : Int) (r : Int) (w : World) (h : regletlaw01_low.f a0 a1 = some r) :
    Calls Try.prog 16 #[.int .i64 a0, .int .i64 a1] w fun e w' => e = .returned (.int .i64 r) ∧ Drawn0 w w' := by
  have H : (if a1 ≥ 64 then (some a0) else (if 0 ≤ a1 then (some (Go.bits .and .i64 a0 (wrap64 ((shl .i64 1 a1) - 1)))) else (none))) = some r := h
  clear h
  by_cases c3 : a1 ≥ 64
  · rw [if_pos c3] at H
    have c3b0 : decide (64 ≤ a1) = true := decide_eq_true c3
    clear c3
    obtain rfl := Option.some.inj H
    go_enter Try.func16, Try.ntmps16
    go_wp2
    go_ret
    exact ⟨by first | rfl | (simp; done) | (simp [*]; done), by repeat (first | exact Drawn0.refl _ | apply Drawn0.step)⟩
  · rw [if_neg c3] at H
    have c3b0 : decide (64 ≤ a1) = false := decide_eq_false c3
    clear c3
    by_cases c4 : 0 ≤ a1
    · rw [if_pos c4] at H
      have c4b0 := eq_true c4
      have c4b1 : decide (0 ≤ a1) = true := decide_eq_true c4
      clear c4
      obtain ⟨ji5, hji5⟩ : ∃ j_ : Int, (shl .i64 1 a1) = j_ := ⟨_, rfl⟩
      replace H : (some (Go.bits .and .i64 a0 (wrap64 ((ji5) - 1)))) = some r := by first | (rw [hji5] at H; exact H) | (simp only [hji5] at H ⊢; exact H)
      have hji5_ : (IntKind.i64.wrap (1 * 2 ^ min a1.toNat 64)) = ji5 := hji5
      have hji5z : a1 ≤ 64 → (IntKind.i64.wrap (1 * 2 ^ a1.toNat)) = ji5 := shl_small hji5
      have hji5u : (IntKind.i64.wrap (2 ^ min a1.toNat 64)) = ji5 := by have h_ := hji5_; rw [Int.one_mul] at h_; exact h_
      have hji5v : a1 ≤ 64 → (IntKind.i64.wrap (2 ^ a1.toNat)) = ji5 := fun hle_ => by have h_ := hji5z hle_; rw [Int.one_mul] at h_; exact h_
      have hji5y : (wrap64 (1 * 2 ^ min a1.toNat 64)) = ji5 := (i64_w _).symm.trans hji5_
      have hji5x : a1 ≤ 64 → (wrap64 (1 * 2 ^ a1.toNat)) = ji5 := fun h_ => (i64_w _).symm.trans (hji5z h_)
      obtain rfl := Option.some.inj H
      go_enter Try.func16, Try.ntmps16
      go_wp2
      go_ret
      exact ⟨by first | rfl | (simp; done) | (simp only [← hji5] <;> (first | rfl | simp)) | (simp [*]; done), by repeat (first | exact Drawn0.refl _ | apply Drawn0.step)⟩
    · rw [if_neg c4] at H
      exact absurd H (by simp)

/-! ### regletlaw01_NumMoves: function 6 -/
def regletlaw01_NumMoves.f (k : Nat) (a0 : Int) (a1 : Int) : Option (Bool) := (regletlaw01_holds.f k).bind fun t108 => (if t108 = true then (if (Go.bits .and .i64 a1 63) = 63 then ((num_Long.f k 121 a0 (Go.bits .and .i64 a1 63)).bind fun t109 => ((num_Long.f k 125 t109 (Go.bits .and .i64 a1 63)).bind fun t110 => (some (t110 == (Go.bits .and .i64 a0 1))))) else ((num_Long.f k 121 a0 (Go.bits .and .i64 a1 63)).bind fun t111 => (if 0 ≤ (Go.bits .and .i64 a1 63) then (if t111 = (wrap64 (a0 * (shl .i64 1 (Go.bits .and .i64 a1 63)))) then ((num_Long.f k 125 t111 (Go.bits .and .i64 a1 63)).bind fun t112 => ((regletlaw01_low.f a0 (wrap64 (64 - (Go.bits .and .i64 a1 63)))).bind fun t113 => (if t112 = t113 then ((num_Long.f k 121 t111 1).bind fun t114 => ((num_Long.f k 121 a0 (wrap64 ((Go.bits .and .i64 a1 63) + 1))).bind fun t115 => (if t114 = t115 then ((num_Long.f k 123 a0 (Go.bits .and .i64 a1 63)).bind fun t116 => ((num_Long.f k 123 t116 1).bind fun t117 => ((num_Long.f k 123 a0 (wrap64 ((Go.bits .and .i64 a1 63) + 1))).bind fun t118 => (if t117 = t118 then ((num_Long.f k 121 a0 (wrap64 ((Go.bits .and .i64 a1 63) + 64))).bind fun t119 => (some (t119 == t111))) else (some false))))) else (some false)))) else (some false)))) else (some false)) else (none)))) else (some false))
theorem regletlaw01_NumMoves.mono : ∀ a0 a1 k, LeO (regletlaw01_NumMoves.f k a0 a1) (regletlaw01_NumMoves.f (k + 1) a0 a1) := by
  intro a0 a1 k
  unfold regletlaw01_NumMoves.f
  repeat' first
      | (with_reducible exact num_Long.mono _ _ _ _)
      | (with_reducible exact regletlaw01_holds.mono _)
      | (with_reducible exact LeO.refl _)
      | (with_reducible exact LeO.none _)
      | (with_reducible refine LeO.ite ?_ ?_)
      | (with_reducible refine LeO.bind ?_ (fun _ => ?_))
      | exact num_Long.mono _ _ _ _
      | exact regletlaw01_holds.mono _
      | exact LeO.none _
      | refine LeO.ite ?_ ?_
      | refine LeO.bind ?_ (fun _ => ?_)
set_option maxHeartbeats 8000000 in
set_option maxRecDepth 100000 in
theorem regletlaw01_NumMoves.calls (k : Nat) (a0 : Int) (a1 : Int) (r : Bool) (w : World) (h : regletlaw01_NumMoves.f k a0 a1 = some r) :
    Calls Try.prog 6 #[.int .i64 a0, .int .i64 a1] w fun e w' => e = .returned (.bool r) ∧ Drawn0 w w' := by
  have H : ((regletlaw01_holds.f k).bind fun t108 => (if t108 = true then (if (Go.bits .and .i64 a1 63) = 63 then ((num_Long.f k 121 a0 (Go.bits .and .i64 a1 63)).bind fun t109 => ((num_Long.f k 125 t109 (Go.bits .and .i64 a1 63)).bind fun t110 => (some (t110 == (Go.bits .and .i64 a0 1))))) else ((num_Long.f k 121 a0 (Go.bits .and .i64 a1 63)).bind fun t111 => (if 0 ≤ (Go.bits .and .i64 a1 63) then (if t111 = (wrap64 (a0 * (shl .i64 1 (Go.bits .and .i64 a1 63)))) then ((num_Long.f k 125 t111 (Go.bits .and .i64 a1 63)).bind fun t112 => ((regletlaw01_low.f a0 (wrap64 (64 - (Go.bits .and .i64 a1 63)))).bind fun t113 => (if t112 = t113 then ((num_Long.f k 121 t111 1).bind fun t114 => ((num_Long.f k 121 a0 (wrap64 ((Go.bits .and .i64 a1 63) + 1))).bind fun t115 => (if t114 = t115 then ((num_Long.f k 123 a0 (Go.bits .and .i64 a1 63)).bind fun t116 => ((num_Long.f k 123 t116 1).bind fun t117 => ((num_Long.f k 123 a0 (wrap64 ((Go.bits .and .i64 a1 63) + 1))).bind fun t118 => (if t117 = t118 then ((num_Long.f k 121 a0 (wrap64 ((Go.bits .and .i64 a1 63) + 64))).bind fun t119 => (some (t119 == t111))) else (some false))))) else (some false)))) else (some false)))) else (some false)) else (none)))) else (some false))) = some r := h
  clear h
  replace H := Option.bind_eq_some_iff.mp H
  obtain ⟨t108, A30, H⟩ := H
  replace H : (if t108 = true then (if (Go.bits .and .i64 a1 63) = 63 then ((num_Long.f k 121 a0 (Go.bits .and .i64 a1 63)).bind fun t109 => ((num_Long.f k 125 t109 (Go.bits .and .i64 a1 63)).bind fun t110 => (some (t110 == (Go.bits .and .i64 a0 1))))) else ((num_Long.f k 121 a0 (Go.bits .and .i64 a1 63)).bind fun t111 => (if 0 ≤ (Go.bits .and .i64 a1 63) then (if t111 = (wrap64 (a0 * (shl .i64 1 (Go.bits .and .i64 a1 63)))) then ((num_Long.f k 125 t111 (Go.bits .and .i64 a1 63)).bind fun t112 => ((regletlaw01_low.f a0 (wrap64 (64 - (Go.bits .and .i64 a1 63)))).bind fun t113 => (if t112 = t113 then ((num_Long.f k 121 t111 1).bind fun t114 => ((num_Long.f k 121 a0 (wrap64 ((Go.bits .and .i64 a1 63) + 1))).bind fun t115 => (if t114 = t115 then ((num_Long.f k 123 a0 (Go.bits .and .i64 a1 63)).bind fun t116 => ((num_Long.f k 123 t116 1).bind fun t117 => ((num_Long.f k 123 a0 (wrap64 ((Go.bits .and .i64 a1 63) + 1))).bind fun t118 => (if t117 = t118 then ((num_Long.f k 121 a0 (wrap64 ((Go.bits .and .i64 a1 63) + 64))).bind fun t119 => (some (t119 == t111))) else (some false))))) else (some false)))) else (some false)))) else (some false)) else (none)))) else (some false)) = some r := H
  have A3 := Aside0.mk A30
  clear A30
  by_cases c4 : t108 = true
  · subst c4
    have H1 : (if (Go.bits .and .i64 a1 63) = 63 then ((num_Long.f k 121 a0 (Go.bits .and .i64 a1 63)).bind fun t109 => ((num_Long.f k 125 t109 (Go.bits .and .i64 a1 63)).bind fun t110 => (some (t110 == (Go.bits .and .i64 a0 1))))) else ((num_Long.f k 121 a0 (Go.bits .and .i64 a1 63)).bind fun t111 => (if 0 ≤ (Go.bits .and .i64 a1 63) then (if t111 = (wrap64 (a0 * (shl .i64 1 (Go.bits .and .i64 a1 63)))) then ((num_Long.f k 125 t111 (Go.bits .and .i64 a1 63)).bind fun t112 => ((regletlaw01_low.f a0 (wrap64 (64 - (Go.bits .and .i64 a1 63)))).bind fun t113 => (if t112 = t113 then ((num_Long.f k 121 t111 1).bind fun t114 => ((num_Long.f k 121 a0 (wrap64 ((Go.bits .and .i64 a1 63) + 1))).bind fun t115 => (if t114 = t115 then ((num_Long.f k 123 a0 (Go.bits .and .i64 a1 63)).bind fun t116 => ((num_Long.f k 123 t116 1).bind fun t117 => ((num_Long.f k 123 a0 (wrap64 ((Go.bits .and .i64 a1 63) + 1))).bind fun t118 => (if t117 = t118 then ((num_Long.f k 121 a0 (wrap64 ((Go.bits .and .i64 a1 63) + 64))).bind fun t119 => (some (t119 == t111))) else (some false))))) else (some false)))) else (some false)))) else (some false)) else (none)))) = some r := by rw [if_pos rfl] at H; exact H
    clear H
    have H := H1
    clear H1
    by_cases c5 : (Go.bits .and .i64 a1 63) = 63
    · rw [if_pos c5] at H
      have c5b0 : ((Go.bits .and .i64 a1 63) == 63) = true := beq_iff_eq.mpr c5
      have c5b1 : ((Go.bits .and .i64 a1 63) != 63) = false := bne_eq_false_iff_eq.mpr c5
      clear c5
      replace H := Option.bind_eq_some_iff.mp H
      obtain ⟨t109, A60, H⟩ := H
      replace H : ((num_Long.f k 125 t109 (Go.bits .and .i64 a1 63)).bind fun t110 => (some (t110 == (Go.bits .and .i64 a0 1)))) = some r := H
      have A6 := Aside0.mk A60
      clear A60
      replace H := Option.bind_eq_some_iff.mp H
      obtain ⟨t110, A70, H⟩ := H
      replace H : (some (t110 == (Go.bits .and .i64 a0 1))) = some r := H
      have A7 := Aside0.mk A70
      clear A70
      obtain rfl := Option.some.inj H
      go_enter Try.func6, Try.ntmps6
      go_wp2_with (first | ((with_reducible refine gate_callee (f := 12) rfl ?_); refine goesL_ (some 6) rfl rfl Try.func12 (by kernel_rfl) rfl #[] rfl (by (try simp only [List.map_toArray, List.map_cons, List.map_nil]); first | done | rfl | (simp only [List.length_drop, List.length_take]; rfl)) ?_; (with_reducible refine (regletlaw01_holds.calls k  true _ A3.out).mono ?_); rintro e w' ⟨rfl, ⟨nd, rfl⟩⟩; refine ⟨_, rfl, ?_⟩) | ((with_reducible refine gate_callee (f := 15) rfl ?_); refine goesL_ (some 14) rfl rfl Try.func15 (by kernel_rfl) rfl #[.int .i64 121, .int .i64 a0, .int .i64 (Go.bits .and .i64 a1 63)] rfl (by (try simp only [List.map_toArray, List.map_cons, List.map_nil]); first | done | rfl | (simp only [List.length_drop, List.length_take]; rfl)) ?_; (with_reducible refine (num_Long.calls k 121 a0 (Go.bits .and .i64 a1 63) t109 _ A6.out).mono ?_); rintro e w' ⟨rfl, ⟨nd, rfl⟩⟩; refine ⟨_, rfl, ?_⟩) | ((with_reducible refine gate_callee (f := 15) rfl ?_); refine goesL_ (some 16) rfl rfl Try.func15 (by kernel_rfl) rfl #[.int .i64 125, .int .i64 t109, .int .i64 (Go.bits .and .i64 a1 63)] rfl (by (try simp only [List.map_toArray, List.map_cons, List.map_nil]); first | done | rfl | (simp only [List.length_drop, List.length_take]; rfl)) ?_; (with_reducible refine (num_Long.calls k 125 t109 (Go.bits .and .i64 a1 63) t110 _ A7.out).mono ?_); rintro e w' ⟨rfl, ⟨nd, rfl⟩⟩; refine ⟨_, rfl, ?_⟩))
      go_ret
      exact ⟨by first | rfl | (simp; done) | (simp [*]; done), by repeat (first | exact Drawn0.refl _ | apply Drawn0.step)⟩
    · rw [if_neg c5] at H
      have c5b0 : ((Go.bits .and .i64 a1 63) == 63) = false := beq_eq_false_iff_ne.mpr c5
      have c5b1 : ((Go.bits .and .i64 a1 63) != 63) = true := bne_iff_ne.mpr c5
      replace H := Option.bind_eq_some_iff.mp H
      obtain ⟨t111, A80, H⟩ := H
      replace H : (if 0 ≤ (Go.bits .and .i64 a1 63) then (if t111 = (wrap64 (a0 * (shl .i64 1 (Go.bits .and .i64 a1 63)))) then ((num_Long.f k 125 t111 (Go.bits .and .i64 a1 63)).bind fun t112 => ((regletlaw01_low.f a0 (wrap64 (64 - (Go.bits .and .i64 a1 63)))).bind fun t113 => (if t112 = t113 then ((num_Long.f k 121 t111 1).bind fun t114 => ((num_Long.f k 121 a0 (wrap64 ((Go.bits .and .i64 a1 63) + 1))).bind fun t115 => (if t114 = t115 then ((num_Long.f k 123 a0 (Go.bits .and .i64 a1 63)).bind fun t116 => ((num_Long.f k 123 t116 1).bind fun t117 => ((num_Long.f k 123 a0 (wrap64 ((Go.bits .and .i64 a1 63) + 1))).bind fun t118 => (if t117 = t118 then ((num_Long.f k 121 a0 (wrap64 ((Go.bits .and .i64 a1 63) + 64))).bind fun t119 => (some (t119 == t111))) else (some false))))) else (some false)))) else (some false)))) else (some false)) else (none)) = some r := H
      have A8 := Aside0.mk A80
      clear A80
      by_cases c9 : 0 ≤ (Go.bits .and .i64 a1 63)
      · rw [if_pos c9] at H
        have c9b0 := eq_true c9
        have c9b1 : decide (0 ≤ (Go.bits .and .i64 a1 63)) = true := decide_eq_true c9
        clear c9
        obtain ⟨ji10, hji10⟩ : ∃ j_ : Int, (shl .i64 1 (Go.bits .and .i64 a1 63)) = j_ := ⟨_, rfl⟩
        replace H : (if t111 = (wrap64 (a0 * (ji10))) then ((num_Long.f k 125 t111 (Go.bits .and .i64 a1 63)).bind fun t112 => ((regletlaw01_low.f a0 (wrap64 (64 - (Go.bits .and .i64 a1 63)))).bind fun t113 => (if t112 = t113 then ((num_Long.f k 121 t111 1).bind fun t114 => ((num_Long.f k 121 a0 (wrap64 ((Go.bits .and .i64 a1 63) + 1))).bind fun t115 => (if t114 = t115 then ((num_Long.f k 123 a0 (Go.bits .and .i64 a1 63)).bind fun t116 => ((num_Long.f k 123 t116 1).bind fun t117 => ((num_Long.f k 123 a0 (wrap64 ((Go.bits .and .i64 a1 63) + 1))).bind fun t118 => (if t117 = t118 then ((num_Long.f k 121 a0 (wrap64 ((Go.bits .and .i64 a1 63) + 64))).bind fun t119 => (some (t119 == t111))) else (some false))))) else (some false)))) else (some false)))) else (some false)) = some r := by first | (rw [hji10] at H; exact H) | (simp only [hji10] at H ⊢; exact H)
        (try rw [hji10] at A3)
        (try rw [hji10] at A8)
        have hji10_ : (IntKind.i64.wrap (1 * 2 ^ min (Go.bits .and .i64 a1 63).toNat 64)) = ji10 := hji10
        have hji10z : (Go.bits .and .i64 a1 63) ≤ 64 → (IntKind.i64.wrap (1 * 2 ^ (Go.bits .and .i64 a1 63).toNat)) = ji10 := shl_small hji10
        have hji10u : (IntKind.i64.wrap (2 ^ min (Go.bits .and .i64 a1 63).toNat 64)) = ji10 := by have h_ := hji10_; rw [Int.one_mul] at h_; exact h_
        have hji10v : (Go.bits .and .i64 a1 63) ≤ 64 → (IntKind.i64.wrap (2 ^ (Go.bits .and .i64 a1 63).toNat)) = ji10 := fun hle_ => by have h_ := hji10z hle_; rw [Int.one_mul] at h_; exact h_
        have hji10y : (wrap64 (1 * 2 ^ min (Go.bits .and .i64 a1 63).toNat 64)) = ji10 := (i64_w _).symm.trans hji10_
        have hji10x : (Go.bits .and .i64 a1 63) ≤ 64 → (wrap64 (1 * 2 ^ (Go.bits .and .i64 a1 63).toNat)) = ji10 := fun h_ => (i64_w _).symm.trans (hji10z h_)
        by_cases c11 : t111 = (wrap64 (a0 * (ji10)))
        · rw [if_pos c11] at H
          have c11b0 : (t111 == (wrap64 (a0 * (ji10)))) = true := beq_iff_eq.mpr c11
          have c11b1 : (t111 != (wrap64 (a0 * (ji10)))) = false := bne_eq_false_iff_eq.mpr c11
          clear c11
          replace H := Option.bind_eq_some_iff.mp H
          obtain ⟨t112, A120, H⟩ := H
          replace H : ((regletlaw01_low.f a0 (wrap64 (64 - (Go.bits .and .i64 a1 63)))).bind fun t113 => (if t112 = t113 then ((num_Long.f k 121 t111 1).bind fun t114 => ((num_Long.f k 121 a0 (wrap64 ((Go.bits .and .i64 a1 63) + 1))).bind fun t115 => (if t114 = t115 then ((num_Long.f k 123 a0 (Go.bits .and .i64 a1 63)).bind fun t116 => ((num_Long.f k 123 t116 1).bind fun t117 => ((num_Long.f k 123 a0 (wrap64 ((Go.bits .and .i64 a1 63) + 1))).bind fun t118 => (if t117 = t118 then ((num_Long.f k 121 a0 (wrap64 ((Go.bits .and .i64 a1 63) + 64))).bind fun t119 => (some (t119 == t111))) else (some false))))) else (some false)))) else (some false))) = some r := H
          have A12 := Aside0.mk A120
          clear A120
          replace H := Option.bind_eq_some_iff.mp H
          obtain ⟨t113, A130, H⟩ := H
          replace H : (if t112 = t113 then ((num_Long.f k 121 t111 1).bind fun t114 => ((num_Long.f k 121 a0 (wrap64 ((Go.bits .and .i64 a1 63) + 1))).bind fun t115 => (if t114 = t115 then ((num_Long.f k 123 a0 (Go.bits .and .i64 a1 63)).bind fun t116 => ((num_Long.f k 123 t116 1).bind fun t117 => ((num_Long.f k 123 a0 (wrap64 ((Go.bits .and .i64 a1 63) + 1))).bind fun t118 => (if t117 = t118 then ((num_Long.f k 121 a0 (wrap64 ((Go.bits .and .i64 a1 63) + 64))).bind fun t119 => (some (t119 == t111))) else (some false))))) else (some false)))) else (some false)) = some r := H
          have A13 := Aside0.mk A130
          clear A130
          by_cases c14 : t112 = t113
          · rw [if_pos c14] at H
            have c14b0 : (t112 == t113) = true := beq_iff_eq.mpr c14
            have c14b1 : (t112 != t113) = false := bne_eq_false_iff_eq.mpr c14
            clear c14
            replace H := Option.bind_eq_some_iff.mp H
            obtain ⟨t114, A150, H⟩ := H
            replace H : ((num_Long.f k 121 a0 (wrap64 ((Go.bits .and .i64 a1 63) + 1))).bind fun t115 => (if t114 = t115 then ((num_Long.f k 123 a0 (Go.bits .and .i64 a1 63)).bind fun t116 => ((num_Long.f k 123 t116 1).bind fun t117 => ((num_Long.f k 123 a0 (wrap64 ((Go.bits .and .i64 a1 63) + 1))).bind fun t118 => (if t117 = t118 then ((num_Long.f k 121 a0 (wrap64 ((Go.bits .and .i64 a1 63) + 64))).bind fun t119 => (some (t119 == t111))) else (some false))))) else (some false))) = some r := H
            have A15 := Aside0.mk A150
            clear A150
            replace H := Option.bind_eq_some_iff.mp H
            obtain ⟨t115, A160, H⟩ := H
            replace H : (if t114 = t115 then ((num_Long.f k 123 a0 (Go.bits .and .i64 a1 63)).bind fun t116 => ((num_Long.f k 123 t116 1).bind fun t117 => ((num_Long.f k 123 a0 (wrap64 ((Go.bits .and .i64 a1 63) + 1))).bind fun t118 => (if t117 = t118 then ((num_Long.f k 121 a0 (wrap64 ((Go.bits .and .i64 a1 63) + 64))).bind fun t119 => (some (t119 == t111))) else (some false))))) else (some false)) = some r := H
            have A16 := Aside0.mk A160
            clear A160
            by_cases c17 : t114 = t115
            · rw [if_pos c17] at H
              have c17b0 : (t114 == t115) = true := beq_iff_eq.mpr c17
              have c17b1 : (t114 != t115) = false := bne_eq_false_iff_eq.mpr c17
              clear c17
              replace H := Option.bind_eq_some_iff.mp H
              obtain ⟨t116, A180, H⟩ := H
              replace H : ((num_Long.f k 123 t116 1).bind fun t117 => ((num_Long.f k 123 a0 (wrap64 ((Go.bits .and .i64 a1 63) + 1))).bind fun t118 => (if t117 = t118 then ((num_Long.f k 121 a0 (wrap64 ((Go.bits .and .i64 a1 63) + 64))).bind fun t119 => (some (t119 == t111))) else (some false)))) = some r := H
              have A18 := Aside0.mk A180
              clear A180
              replace H := Option.bind_eq_some_iff.mp H
              obtain ⟨t117, A190, H⟩ := H
              replace H : ((num_Long.f k 123 a0 (wrap64 ((Go.bits .and .i64 a1 63) + 1))).bind fun t118 => (if t117 = t118 then ((num_Long.f k 121 a0 (wrap64 ((Go.bits .and .i64 a1 63) + 64))).bind fun t119 => (some (t119 == t111))) else (some false))) = some r := H
              have A19 := Aside0.mk A190
              clear A190
              replace H := Option.bind_eq_some_iff.mp H
              obtain ⟨t118, A200, H⟩ := H
              replace H : (if t117 = t118 then ((num_Long.f k 121 a0 (wrap64 ((Go.bits .and .i64 a1 63) + 64))).bind fun t119 => (some (t119 == t111))) else (some false)) = some r := H
              have A20 := Aside0.mk A200
              clear A200
              by_cases c21 : t117 = t118
              · rw [if_pos c21] at H
                have c21b0 : (t117 == t118) = true := beq_iff_eq.mpr c21
                have c21b1 : (t117 != t118) = false := bne_eq_false_iff_eq.mpr c21
                clear c21
                replace H := Option.bind_eq_some_iff.mp H
                obtain ⟨t119, A220, H⟩ := H
                replace H : (some (t119 == t111)) = some r := H
                have A22 := Aside0.mk A220
                clear A220
                obtain rfl := Option.some.inj H
                go_enter Try.func6, Try.ntmps6
                go_wp2_with (first | ((with_reducible refine gate_callee (f := 12) rfl ?_); refine goesL_ (some 6) rfl rfl Try.func12 (by kernel_rfl) rfl #[] rfl (by (try simp only [List.map_toArray, List.map_cons, List.map_nil]); first | done | rfl | (simp only [List.length_drop, List.length_take]; rfl)) ?_; (with_reducible refine (regletlaw01_holds.calls k  true _ A3.out).mono ?_); rintro e w' ⟨rfl, ⟨nd, rfl⟩⟩; refine ⟨_, rfl, ?_⟩) | ((with_reducible refine gate_callee (f := 15) rfl ?_); refine goesL_ (some 22) rfl rfl Try.func15 (by kernel_rfl) rfl #[.int .i64 121, .int .i64 a0, .int .i64 (Go.bits .and .i64 a1 63)] rfl (by (try simp only [List.map_toArray, List.map_cons, List.map_nil]); first | done | rfl | (simp only [List.length_drop, List.length_take]; rfl)) ?_; (with_reducible refine (num_Long.calls k 121 a0 (Go.bits .and .i64 a1 63) t111 _ A8.out).mono ?_); rintro e w' ⟨rfl, ⟨nd, rfl⟩⟩; refine ⟨_, rfl, ?_⟩) | (go_at_call 15; (with_reducible refine (num_Long.calls k 125 t111 (Go.bits .and .i64 a1 63) t112 _ A12.out).mono ?_); rintro e w' ⟨rfl, ⟨nd, rfl⟩⟩) | (go_at_call 16; (with_reducible refine (regletlaw01_low.calls a0 (wrap64 (64 - (Go.bits .and .i64 a1 63))) t113 _ A13.out).mono ?_); rintro e w' ⟨rfl, ⟨nd, rfl⟩⟩) | (go_at_call 15; (with_reducible refine (num_Long.calls k 121 t111 1 t114 _ A15.out).mono ?_); rintro e w' ⟨rfl, ⟨nd, rfl⟩⟩) | (go_at_call 15; (with_reducible refine (num_Long.calls k 121 a0 (wrap64 ((Go.bits .and .i64 a1 63) + 1)) t115 _ A16.out).mono ?_); rintro e w' ⟨rfl, ⟨nd, rfl⟩⟩) | (go_at_call 15; (with_reducible refine (num_Long.calls k 123 a0 (Go.bits .and .i64 a1 63) t116 _ A18.out).mono ?_); rintro e w' ⟨rfl, ⟨nd, rfl⟩⟩) | (go_at_call 15; (with_reducible refine (num_Long.calls k 123 t116 1 t117 _ A19.out).mono ?_); rintro e w' ⟨rfl, ⟨nd, rfl⟩⟩) | (go_at_call 15; (with_reducible refine (num_Long.calls k 123 a0 (wrap64 ((Go.bits .and .i64 a1 63) + 1)) t118 _ A20.out).mono ?_); rintro e w' ⟨rfl, ⟨nd, rfl⟩⟩) | (go_at_call 15; (with_reducible refine (num_Long.calls k 121 a0 (wrap64 ((Go.bits .and .i64 a1 63) + 64)) t119 _ A22.out).mono ?_); rintro e w' ⟨rfl, ⟨nd, rfl⟩⟩))
                go_ret
                exact ⟨by first | rfl | (simp; done) | (simp only [← hji10] <;> (first | rfl | simp)) | (simp [*]; done), by repeat (first | exact Drawn0.refl _ | apply Drawn0.step)⟩
              · rw [if_neg c21] at H
                have c21b0 : (t117 == t118) = false := beq_eq_false_iff_ne.mpr c21
                have c21b1 : (t117 != t118) = true := bne_iff_ne.mpr c21
                obtain rfl := Option.some.inj H
                go_enter Try.func6, Try.ntmps6
                go_wp2_with (first | ((with_reducible refine gate_callee (f := 12) rfl ?_); refine goesL_ (some 6) rfl rfl Try.func12 (by kernel_rfl) rfl #[] rfl (by (try simp only [List.map_toArray, List.map_cons, List.map_nil]); first | done | rfl | (simp only [List.length_drop, List.length_take]; rfl)) ?_; (with_reducible refine (regletlaw01_holds.calls k  true _ A3.out).mono ?_); rintro e w' ⟨rfl, ⟨nd, rfl⟩⟩; refine ⟨_, rfl, ?_⟩) | ((with_reducible refine gate_callee (f := 15) rfl ?_); refine goesL_ (some 22) rfl rfl Try.func15 (by kernel_rfl) rfl #[.int .i64 121, .int .i64 a0, .int .i64 (Go.bits .and .i64 a1 63)] rfl (by (try simp only [List.map_toArray, List.map_cons, List.map_nil]); first | done | rfl | (simp only [List.length_drop, List.length_take]; rfl)) ?_; (with_reducible refine (num_Long.calls k 121 a0 (Go.bits .and .i64 a1 63) t111 _ A8.out).mono ?_); rintro e w' ⟨rfl, ⟨nd, rfl⟩⟩; refine ⟨_, rfl, ?_⟩) | (go_at_call 15; (with_reducible refine (num_Long.calls k 125 t111 (Go.bits .and .i64 a1 63) t112 _ A12.out).mono ?_); rintro e w' ⟨rfl, ⟨nd, rfl⟩⟩) | (go_at_call 16; (with_reducible refine (regletlaw01_low.calls a0 (wrap64 (64 - (Go.bits .and .i64 a1 63))) t113 _ A13.out).mono ?_); rintro e w' ⟨rfl, ⟨nd, rfl⟩⟩) | (go_at_call 15; (with_reducible refine (num_Long.calls k 121 t111 1 t114 _ A15.out).mono ?_); rintro e w' ⟨rfl, ⟨nd, rfl⟩⟩) | (go_at_call 15; (with_reducible refine (num_Long.calls k 121 a0 (wrap64 ((Go.bits .and .i64 a1 63) + 1)) t115 _ A16.out).mono ?_); rintro e w' ⟨rfl, ⟨nd, rfl⟩⟩) | (go_at_call 15; (with_reducible refine (num_Long.calls k 123 a0 (Go.bits .and .i64 a1 63) t116 _ A18.out).mono ?_); rintro e w' ⟨rfl, ⟨nd, rfl⟩⟩) | (go_at_call 15; (with_reducible refine (num_Long.calls k 123 t116 1 t117 _ A19.out).mono ?_); rintro e w' ⟨rfl, ⟨nd, rfl⟩⟩) | (go_at_call 15; (with_reducible refine (num_Long.calls k 123 a0 (wrap64 ((Go.bits .and .i64 a1 63) + 1)) t118 _ A20.out).mono ?_); rintro e w' ⟨rfl, ⟨nd, rfl⟩⟩))
                go_ret
                exact ⟨by first | rfl | (simp; done) | (simp only [← hji10] <;> (first | rfl | simp)) | (simp [*]; done), by repeat (first | exact Drawn0.refl _ | apply Drawn0.step)⟩
            · rw [if_neg c17] at H
              have c17b0 : (t114 == t115) = false := beq_eq_false_iff_ne.mpr c17
              have c17b1 : (t114 != t115) = true := bne_iff_ne.mpr c17
              obtain rfl := Option.some.inj H
              go_enter Try.func6, Try.ntmps6
              go_wp2_with (first | ((with_reducible refine gate_callee (f := 12) rfl ?_); refine goesL_ (some 6) rfl rfl Try.func12 (by kernel_rfl) rfl #[] rfl (by (try simp only [List.map_toArray, List.map_cons, List.map_nil]); first | done | rfl | (simp only [List.length_drop, List.length_take]; rfl)) ?_; (with_reducible refine (regletlaw01_holds.calls k  true _ A3.out).mono ?_); rintro e w' ⟨rfl, ⟨nd, rfl⟩⟩; refine ⟨_, rfl, ?_⟩) | ((with_reducible refine gate_callee (f := 15) rfl ?_); refine goesL_ (some 22) rfl rfl Try.func15 (by kernel_rfl) rfl #[.int .i64 121, .int .i64 a0, .int .i64 (Go.bits .and .i64 a1 63)] rfl (by (try simp only [List.map_toArray, List.map_cons, List.map_nil]); first | done | rfl | (simp only [List.length_drop, List.length_take]; rfl)) ?_; (with_reducible refine (num_Long.calls k 121 a0 (Go.bits .and .i64 a1 63) t111 _ A8.out).mono ?_); rintro e w' ⟨rfl, ⟨nd, rfl⟩⟩; refine ⟨_, rfl, ?_⟩) | (go_at_call 15; (with_reducible refine (num_Long.calls k 125 t111 (Go.bits .and .i64 a1 63) t112 _ A12.out).mono ?_); rintro e w' ⟨rfl, ⟨nd, rfl⟩⟩) | (go_at_call 16; (with_reducible refine (regletlaw01_low.calls a0 (wrap64 (64 - (Go.bits .and .i64 a1 63))) t113 _ A13.out).mono ?_); rintro e w' ⟨rfl, ⟨nd, rfl⟩⟩) | (go_at_call 15; (with_reducible refine (num_Long.calls k 121 t111 1 t114 _ A15.out).mono ?_); rintro e w' ⟨rfl, ⟨nd, rfl⟩⟩) | (go_at_call 15; (with_reducible refine (num_Long.calls k 121 a0 (wrap64 ((Go.bits .and .i64 a1 63) + 1)) t115 _ A16.out).mono ?_); rintro e w' ⟨rfl, ⟨nd, rfl⟩⟩))
              go_ret
              exact ⟨by first | rfl | (simp; done) | (simp only [← hji10] <;> (first | rfl | simp)) | (simp [*]; done), by repeat (first | exact Drawn0.refl _ | apply Drawn0.step)⟩
          · rw [if_neg c14] at H
            have c14b0 : (t112 == t113) = false := beq_eq_false_iff_ne.mpr c14
            have c14b1 : (t112 != t113) = true := bne_iff_ne.mpr c14
            obtain rfl := Option.some.inj H
            go_enter Try.func6, Try.ntmps6
            go_wp2_with (first | ((with_reducible refine gate_callee (f := 12) rfl ?_); refine goesL_ (some 6) rfl rfl Try.func12 (by kernel_rfl) rfl #[] rfl (by (try simp only [List.map_toArray, List.map_cons, List.map_nil]); first | done | rfl | (simp only [List.length_drop, List.length_take]; rfl)) ?_; (with_reducible refine (regletlaw01_holds.calls k  true _ A3.out).mono ?_); rintro e w' ⟨rfl, ⟨nd, rfl⟩⟩; refine ⟨_, rfl, ?_⟩) | ((with_reducible refine gate_callee (f := 15) rfl ?_); refine goesL_ (some 22) rfl rfl Try.func15 (by kernel_rfl) rfl #[.int .i64 121, .int .i64 a0, .int .i64 (Go.bits .and .i64 a1 63)] rfl (by (try simp only [List.map_toArray, List.map_cons, List.map_nil]); first | done | rfl | (simp only [List.length_drop, List.length_take]; rfl)) ?_; (with_reducible refine (num_Long.calls k 121 a0 (Go.bits .and .i64 a1 63) t111 _ A8.out).mono ?_); rintro e w' ⟨rfl, ⟨nd, rfl⟩⟩; refine ⟨_, rfl, ?_⟩) | (go_at_call 15; (with_reducible refine (num_Long.calls k 125 t111 (Go.bits .and .i64 a1 63) t112 _ A12.out).mono ?_); rintro e w' ⟨rfl, ⟨nd, rfl⟩⟩) | (go_at_call 16; (with_reducible refine (regletlaw01_low.calls a0 (wrap64 (64 - (Go.bits .and .i64 a1 63))) t113 _ A13.out).mono ?_); rintro e w' ⟨rfl, ⟨nd, rfl⟩⟩))
            go_ret
            exact ⟨by first | rfl | (simp; done) | (simp only [← hji10] <;> (first | rfl | simp)) | (simp [*]; done), by repeat (first | exact Drawn0.refl _ | apply Drawn0.step)⟩
        · rw [if_neg c11] at H
          have c11b0 : (t111 == (wrap64 (a0 * (ji10)))) = false := beq_eq_false_iff_ne.mpr c11
          have c11b1 : (t111 != (wrap64 (a0 * (ji10)))) = true := bne_iff_ne.mpr c11
          obtain rfl := Option.some.inj H
          go_enter Try.func6, Try.ntmps6
          go_wp2_with (first | ((with_reducible refine gate_callee (f := 12) rfl ?_); refine goesL_ (some 6) rfl rfl Try.func12 (by kernel_rfl) rfl #[] rfl (by (try simp only [List.map_toArray, List.map_cons, List.map_nil]); first | done | rfl | (simp only [List.length_drop, List.length_take]; rfl)) ?_; (with_reducible refine (regletlaw01_holds.calls k  true _ A3.out).mono ?_); rintro e w' ⟨rfl, ⟨nd, rfl⟩⟩; refine ⟨_, rfl, ?_⟩) | ((with_reducible refine gate_callee (f := 15) rfl ?_); refine goesL_ (some 22) rfl rfl Try.func15 (by kernel_rfl) rfl #[.int .i64 121, .int .i64 a0, .int .i64 (Go.bits .and .i64 a1 63)] rfl (by (try simp only [List.map_toArray, List.map_cons, List.map_nil]); first | done | rfl | (simp only [List.length_drop, List.length_take]; rfl)) ?_; (with_reducible refine (num_Long.calls k 121 a0 (Go.bits .and .i64 a1 63) t111 _ A8.out).mono ?_); rintro e w' ⟨rfl, ⟨nd, rfl⟩⟩; refine ⟨_, rfl, ?_⟩))
          go_ret
          exact ⟨by first | rfl | (simp; done) | (simp only [← hji10] <;> (first | rfl | simp)) | (simp [*]; done), by repeat (first | exact Drawn0.refl _ | apply Drawn0.step)⟩
      · rw [if_neg c9] at H
        exact absurd H (by simp)
  · replace c4 := Bool.eq_false_iff.mpr c4
    subst c4
    have H1 : (some false) = some r := by rw [if_neg (show ¬ (false = true) by decide)] at H; exact H
    clear H
    have H := H1
    clear H1
    obtain rfl := Option.some.inj H
    go_enter Try.func6, Try.ntmps6
    go_wp2_with (first | ((with_reducible refine gate_callee (f := 12) rfl ?_); refine goesL_ (some 6) rfl rfl Try.func12 (by kernel_rfl) rfl #[] rfl (by (try simp only [List.map_toArray, List.map_cons, List.map_nil]); first | done | rfl | (simp only [List.length_drop, List.length_take]; rfl)) ?_; (with_reducible refine (regletlaw01_holds.calls k  false _ A3.out).mono ?_); rintro e w' ⟨rfl, ⟨nd, rfl⟩⟩; refine ⟨_, rfl, ?_⟩))
    go_ret
    exact ⟨by first | rfl | (simp; done) | (simp [*]; done), by repeat (first | exact Drawn0.refl _ | apply Drawn0.step)⟩

/-- THE ONE PURE STATEMENT of regletlaw01_NumMoves: yours. -/
def regletlaw01_NumMoves.Pure : Prop := ∀ (a0 : Int) (a1 : Int), (Lit.int .i64 a0).wf = true → (Lit.int .i64 a1).wf = true → ∃ k, regletlaw01_NumMoves.f k a0 a1 = some true
theorem regletlaw01_NumMoves.walk (P : regletlaw01_NumMoves.Pure) (a0 : Int) (a1 : Int) (w : World) (w0 : (Lit.int .i64 a0).wf = true) (w1 : (Lit.int .i64 a1).wf = true) :
    Calls Try.prog 6 #[.int .i64 a0, .int .i64 a1] w fun e w' => e = .returned (.bool true) ∧ Below w.heap.size w w' := by
  obtain ⟨k, h⟩ := P a0 a1 w0 w1
  refine (regletlaw01_NumMoves.calls k a0 a1 true w h).mono ?_
  rintro e w' ⟨rfl, hd⟩
  exact ⟨rfl, hd.below⟩

end Go.Proofs.Ytmgeihpankhkcaa.PNumMoves
