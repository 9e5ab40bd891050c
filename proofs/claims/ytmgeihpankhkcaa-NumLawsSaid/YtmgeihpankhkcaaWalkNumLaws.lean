/- For all int32 numbers a, b, c: sums and products can be taken in any order, and one by the other; differences undo sums; xor twice is nothing. No condition. -/
import Derived.Test.YtmgeihpankhkcaaNumAll
namespace Go.Proofs.Ytmgeihpankhkcaa.PAll
open Go.RowKit Go.Proofs.YtmgeihpankhkcaaW.PrintWords Go.Proofs.YtmgeihpankhkcaaW.PrintLast Go.Proofs.YtmgeihpankhkcaaW.PrintMore Go.Proofs.Ytmgeihpankhkcaa.Plain

theorem add_calls (x y : Int) (w : World) : Calls Try.prog 17 #[.int .i32 x, .int .i32 y] w fun e w' => e = .returned (.int .i32 (sg 32 (x + y))) ∧ Drawn0 w w' := by
  go_enter Try.func17, Try.ntmps17
  go_wp2_with (go_at_call 14; refine (num_Int.calls 1 96 x y _ _ (int_add 1 x y)).mono ?_; rintro e w' ⟨rfl, ⟨nd, rfl⟩⟩)
  go_ret
  exact ⟨rfl, by repeat (first | exact Drawn0.refl _ | apply Drawn0.step)⟩

theorem mul_calls (x y : Int) (w : World) : Calls Try.prog 18 #[.int .i32 x, .int .i32 y] w fun e w' => e = .returned (.int .i32 (sg 32 (x * y))) ∧ Drawn0 w w' := by
  go_enter Try.func18, Try.ntmps18
  go_wp2_with (go_at_call 14; refine (num_Int.calls 1 104 x y _ _ (int_mul 1 x y)).mono ?_; rintro e w' ⟨rfl, ⟨nd, rfl⟩⟩)
  go_ret
  exact ⟨rfl, by repeat (first | exact Drawn0.refl _ | apply Drawn0.step)⟩

theorem sg32_add_l (x y : Int) : sg 32 (sg 32 x + y) = sg 32 (x + y) := sg_congr (by rw [Int.add_emod, sg_mod, ← Int.add_emod])
theorem sg32_add_r (x y : Int) : sg 32 (x + sg 32 y) = sg 32 (x + y) := sg_congr (by rw [Int.add_emod, sg_mod, ← Int.add_emod])
theorem sg32_mul_l (x y : Int) : sg 32 (sg 32 x * y) = sg 32 (x * y) := sg_congr (by rw [Int.mul_emod, sg_mod, ← Int.mul_emod])
theorem sg32_mul_r (x y : Int) : sg 32 (x * sg 32 y) = sg 32 (x * y) := sg_congr (by rw [Int.mul_emod, sg_mod, ← Int.mul_emod])
theorem sg32_sub_l (x y : Int) : sg 32 (sg 32 x - y) = sg 32 (x - y) := sg_congr (by rw [Int.sub_emod, sg_mod, ← Int.sub_emod])

theorem xor_twice (a b : Int) (h0 : -2147483648 ≤ a) (h1 : a ≤ 2147483647) : Go.bits .xor .i32 (Go.bits .xor .i32 a b) b = a := by
  have hm : (Go.bits .xor .i32 (Go.bits .xor .i32 a b) b) % 2 ^ 32 = a % 2 ^ 32 := by
    refine mod_ext (n := 32) fun i hi => ?_
    rw [bit_xor .i32 _ _ hi, bit_xor .i32 _ _ hi]
    have := bit_01 a i; have := bit_01 b i; omega
  rw [← bits_sg32, sg_congr hm, sg_id (by decide) (by omega) (by omega)]

set_option maxHeartbeats 8000000 in
set_option maxRecDepth 100000 in
/-- Everything that the law asks, over names for what the calls make. -/
theorem laws_walk (a b c u v p m n q z y s x : Int) (w : World)
    (h1 : sg 32 (a + b) = u) (h2 : sg 32 (b + a) = u) (h3 : sg 32 (u + c) = v) (h4 : sg 32 (b + c) = p) (h5 : sg 32 (a + p) = v)
    (h6 : sg 32 (a * b) = m) (h7 : sg 32 (b * a) = m) (h8 : sg 32 (m * c) = n) (h9 : sg 32 (b * c) = q) (h10 : sg 32 (a * q) = n)
    (h11 : sg 32 (a * p) = z) (h12 : sg 32 (a * c) = y) (h13 : sg 32 (m + y) = z) (h14 : sg 32 (u - b) = a) (h15 : sg 32 (-(wrap64 a)) = wrap64 s) (h16 : sg 32 (0 - a) = s)
    (h17 : Go.bits .xor .i32 a b = x) (h18 : Go.bits .xor .i32 x b = a) :
    Calls Try.prog 7 #[.int .i32 a, .int .i32 b, .int .i32 c] w fun e w' => e = .returned (.bool true) ∧ Drawn0 w w' := by
  have c1 := fun w => h1 ▸ add_calls a b w
  have c2 := fun w => h2 ▸ add_calls b a w
  have c3 := fun w => h3 ▸ add_calls u c w
  have c4 := fun w => h4 ▸ add_calls b c w
  have c5 := fun w => h5 ▸ add_calls a p w
  have c6 := fun w => h6 ▸ mul_calls a b w
  have c7 := fun w => h7 ▸ mul_calls b a w
  have c8 := fun w => h8 ▸ mul_calls m c w
  have c9 := fun w => h9 ▸ mul_calls b c w
  have c10 := fun w => h10 ▸ mul_calls a q w
  have c11 := fun w => h11 ▸ mul_calls a p w
  have c12 := fun w => h12 ▸ mul_calls a c w
  have c13 := fun w => h13 ▸ add_calls m y w
  have c14 := fun w => h14 ▸ num_Int.calls 1 100 u b _ w (int_sub 1 u b)
  have c15 := fun w => h15 ▸ num_One.calls 1 116 (wrap64 a) _ w (one_neg32 1 (wrap64 a))
  have c16 := fun w => h16 ▸ num_Int.calls 1 100 0 a _ w (int_sub 1 0 a)
  have c17 := fun w => h17 ▸ num_Int.calls 1 130 a b _ w (int_xor 0 a b)
  have c18 := fun w => h18 ▸ num_Int.calls 1 130 x b _ w (int_xor 0 x b)
  have C1 := Aside0.mk c1; have C2 := Aside0.mk c2; have C3 := Aside0.mk c3; have C4 := Aside0.mk c4; have C5 := Aside0.mk c5; have C6 := Aside0.mk c6
  have C7 := Aside0.mk c7; have C8 := Aside0.mk c8; have C9 := Aside0.mk c9; have C10 := Aside0.mk c10; have C11 := Aside0.mk c11; have C12 := Aside0.mk c12
  have C13 := Aside0.mk c13; have C14 := Aside0.mk c14; have C15 := Aside0.mk c15; have C16 := Aside0.mk c16; have C17 := Aside0.mk c17; have C18 := Aside0.mk c18
  clear c1 c2 c3 c4 c5 c6 c7 c8 c9 c10 c11 c12 c13 c14 c15 c16 c17 c18 h1 h2 h3 h4 h5 h6 h7 h8 h9 h10 h11 h12 h13 h14 h15 h16 h17 h18
  go_enter Try.func7, Try.ntmps7
  go_wp2_with (first | (go_at_call 12; refine (regletlaw01_holds.calls 1 true _ (holds_some 0)).mono ?_; rintro e w' ⟨rfl, ⟨nd, rfl⟩⟩) | (go_at_call 17; (with_reducible refine (C1.out _).mono ?_); rintro e w' ⟨rfl, ⟨nd, rfl⟩⟩) | (go_at_call 17; (with_reducible refine (C2.out _).mono ?_); rintro e w' ⟨rfl, ⟨nd, rfl⟩⟩) | (go_at_call 17; (with_reducible refine (C3.out _).mono ?_); rintro e w' ⟨rfl, ⟨nd, rfl⟩⟩) | (go_at_call 17; (with_reducible refine (C4.out _).mono ?_); rintro e w' ⟨rfl, ⟨nd, rfl⟩⟩) | (go_at_call 17; (with_reducible refine (C5.out _).mono ?_); rintro e w' ⟨rfl, ⟨nd, rfl⟩⟩) | (go_at_call 17; (with_reducible refine (C13.out _).mono ?_); rintro e w' ⟨rfl, ⟨nd, rfl⟩⟩) | (go_at_call 18; (with_reducible refine (C6.out _).mono ?_); rintro e w' ⟨rfl, ⟨nd, rfl⟩⟩) | (go_at_call 18; (with_reducible refine (C7.out _).mono ?_); rintro e w' ⟨rfl, ⟨nd, rfl⟩⟩) | (go_at_call 18; (with_reducible refine (C8.out _).mono ?_); rintro e w' ⟨rfl, ⟨nd, rfl⟩⟩) | (go_at_call 18; (with_reducible refine (C9.out _).mono ?_); rintro e w' ⟨rfl, ⟨nd, rfl⟩⟩) | (go_at_call 18; (with_reducible refine (C10.out _).mono ?_); rintro e w' ⟨rfl, ⟨nd, rfl⟩⟩) | (go_at_call 18; (with_reducible refine (C11.out _).mono ?_); rintro e w' ⟨rfl, ⟨nd, rfl⟩⟩) | (go_at_call 18; (with_reducible refine (C12.out _).mono ?_); rintro e w' ⟨rfl, ⟨nd, rfl⟩⟩) | (go_at_call 14; (with_reducible refine (C14.out _).mono ?_); rintro e w' ⟨rfl, ⟨nd, rfl⟩⟩) | (go_at_call 14; (with_reducible refine (C16.out _).mono ?_); rintro e w' ⟨rfl, ⟨nd, rfl⟩⟩) | (go_at_call 14; (with_reducible refine (C17.out _).mono ?_); rintro e w' ⟨rfl, ⟨nd, rfl⟩⟩) | (go_at_call 14; (with_reducible refine (C18.out _).mono ?_); rintro e w' ⟨rfl, ⟨nd, rfl⟩⟩) | (go_at_call 19; (with_reducible refine (C15.out _).mono ?_); rintro e w' ⟨rfl, ⟨nd, rfl⟩⟩))
  go_ret
  exact ⟨rfl, by repeat (first | exact Drawn0.refl _ | apply Drawn0.step)⟩

theorem numLaws_walk (a b c : Int) (w : World) (wa : (Lit.int .i32 a).wf = true) (_wb : (Lit.int .i32 b).wf = true) (_wc : (Lit.int .i32 c).wf = true) :
    Calls Try.prog 7 #[.int .i32 a, .int .i32 b, .int .i32 c] w fun e w' => e = .returned (.bool true) ∧ Below w.heap.size w w' := by
  have ha := wf32 wa
  refine (laws_walk a b c (sg 32 (a + b)) (sg 32 (a + b + c)) (sg 32 (b + c)) (sg 32 (a * b)) (sg 32 (a * b * c)) (sg 32 (b * c)) (sg 32 (a * (b + c))) (sg 32 (a * c)) (sg 32 (0 - a)) (Go.bits .xor .i32 a b) w
    rfl (by rw [Int.add_comm]) (sg32_add_l _ _) rfl (by rw [sg32_add_r, Int.add_assoc]) rfl (by rw [Int.mul_comm]) (sg32_mul_l _ _) rfl (by rw [sg32_mul_r, Int.mul_assoc])
    (sg32_mul_r _ _) rfl (by rw [sg32_add_l, sg32_add_r, Int.mul_add]) ?_ ?_ rfl rfl (xor_twice a b ha.1 ha.2)).mono fun e w' h => ⟨h.1, h.2.below⟩
  · rw [sg32_sub_l, show a + b - b = a from by omega]
    exact sg_id (by decide) (by omega) (by omega)
  · rw [← wrap32_sg, ← wrap32_sg]; unfold wrap64 wrap32; omega

end Go.Proofs.Ytmgeihpankhkcaa.PAll
