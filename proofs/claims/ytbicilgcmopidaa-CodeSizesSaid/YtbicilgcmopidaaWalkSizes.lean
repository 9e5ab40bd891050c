/- For every int: each code has the size that the document has, and leads, or ends, as it says; what is no instruction neither leads nor ends. No condition. -/
import Derived.Test.YtbicilgcmopidaaPAllx11
import Derived.Test.YtbicilgcmopidaaTable
namespace Go.Proofs.Ytbicilgcmopidaa.PAll
open Go.RowKit Go.Proofs.YtbicilgcmopidaaW.PrintWords Go.Proofs.YtbicilgcmopidaaW.PrintLast Go.Proofs.YtbicilgcmopidaaW.PrintMore
set_option linter.unusedVariables false
set_option linter.unusedSimpArgs false
attribute [local go_sem] max2_int min2_int max_two min_two max_three min_three max_four min_four
set_option maxHeartbeats 8000000 in
set_option maxRecDepth 100000 in
theorem sizes_true_true_true (k : Nat) (a0 s : Int) (w : World) (hd : decide (0 < s) = true) (g0 : regletlaw06_holds.f k = some true) (g1 : code_Size.f k a0 = some s) (g2 : regletref06_Size.f k a0 = some s)
    (g3 : code_Leads.f a0 = some true) (g4 : regletref06_Leads.f a0 = some true) (g5 : code_Ends.f a0 = some true) (g6 : regletref06_Ends.f k a0 = some true) :
    Calls Try.prog 5 #[.int .i64 a0] w fun e w' => e = .returned (.bool true) ∧ Below w.heap.size w w' := by
  have HB := Aside0.mk (Below.refl w.heap.size w)
  have A2 := Aside0.mk g0; have A4 := Aside0.mk g1; have A5 := Aside0.mk g2; have A7 := Aside0.mk g3; have A8 := Aside0.mk g4; have A10 := Aside0.mk g5; have A11 := Aside0.mk g6
  clear g0 g1 g2 g3 g4 g5 g6
  go_enter Try.func5, Try.ntmps5
  go_wp2_with (first | ((with_reducible refine gate_callee (f := 8) rfl ?_); refine goesL_ (some 3) rfl rfl Try.func8 (by kernel_rfl) rfl #[] rfl (by (try simp only [List.map_toArray, List.map_cons, List.map_nil]); first | done | rfl | (simp only [List.length_drop, List.length_take]; rfl)) ?_; (with_reducible refine (regletlaw06_holds.calls k  true _ A2.out).mono ?_); rintro e w24 ⟨rfl, hb⟩; refine ⟨_, rfl, ?_⟩; have n0_ := Aside0.mk (below_step (by repeat (first | (with_reducible first | exact HB.out | apply below_alloc | apply pw_below_drewN | apply below_drew1) | exact HB.out)) hb); clear HB; have HB := n0_; clear n0_; (try clear hb); (try clear hb2); (try clear hk); (try clear hi)) | ((with_reducible refine gate_callee (f := 12) rfl ?_); refine goesL_ (some 6) rfl rfl Try.func12 (by kernel_rfl) rfl #[.int .i64 a0] rfl (by (try simp only [List.map_toArray, List.map_cons, List.map_nil]); first | done | rfl | (simp only [List.length_drop, List.length_take]; rfl)) ?_; (with_reducible refine (code_Size.calls k a0 s _ A4.out).mono ?_); rintro e w' ⟨rfl, ⟨nd, rfl⟩⟩; refine ⟨_, rfl, ?_⟩) | ((with_reducible refine gate_callee (f := 13) rfl ?_); refine goesL_ (some 8) rfl rfl Try.func13 (by kernel_rfl) rfl #[.int .i64 a0] rfl (by (try simp only [List.map_toArray, List.map_cons, List.map_nil]); first | done | rfl | (simp only [List.length_drop, List.length_take]; rfl)) ?_; (with_reducible refine (regletref06_Size.calls k a0 s _ A5.out).mono ?_); rintro e w25 ⟨rfl, hb⟩; refine ⟨_, rfl, ?_⟩; have n0_ := Aside0.mk (below_step (by repeat (first | (with_reducible first | exact HB.out | apply below_alloc | apply pw_below_drewN | apply below_drew1) | exact HB.out)) hb); clear HB; have HB := n0_; clear n0_; (try clear hb); (try clear hb2); (try clear hk); (try clear hi)) | (go_at_call 14; (with_reducible refine (code_Leads.calls a0 true _ A7.out).mono ?_); rintro e w' ⟨rfl, ⟨nd, rfl⟩⟩) | (go_at_call 15; (with_reducible refine (regletref06_Leads.calls a0 true _ A8.out).mono ?_); rintro e w' ⟨rfl, ⟨nd, rfl⟩⟩) | (go_at_call 16; (with_reducible refine (code_Ends.calls a0 true _ A10.out).mono ?_); rintro e w' ⟨rfl, ⟨nd, rfl⟩⟩) | (go_at_call 17; (with_reducible refine (regletref06_Ends.calls k a0 true _ A11.out).mono ?_); rintro e w26 ⟨rfl, hb⟩; have n0_ := Aside0.mk (below_step (by repeat (first | (with_reducible first | exact HB.out | apply below_alloc | apply pw_below_drewN | apply below_drew1) | exact HB.out)) hb); clear HB; have HB := n0_; clear n0_; (try clear hb); (try clear hb2); (try clear hk); (try clear hi)) | (go_at_call 12; (with_reducible refine (code_Size.calls k a0 s _ A4.out).mono ?_); rintro e w' ⟨rfl, ⟨nd, rfl⟩⟩))
  go_ret
  exact ⟨rfl, by repeat (first | (with_reducible first | exact HB.out | apply below_alloc | apply pw_below_drewN | apply below_drew1) | exact HB.out)⟩

set_option maxHeartbeats 8000000 in
set_option maxRecDepth 100000 in
theorem sizes_true_false_true (k : Nat) (a0 s : Int) (w : World) (hd : decide (0 < s) = true) (g0 : regletlaw06_holds.f k = some true) (g1 : code_Size.f k a0 = some s) (g2 : regletref06_Size.f k a0 = some s)
    (g3 : code_Leads.f a0 = some true) (g4 : regletref06_Leads.f a0 = some true) (g5 : code_Ends.f a0 = some false) (g6 : regletref06_Ends.f k a0 = some false) :
    Calls Try.prog 5 #[.int .i64 a0] w fun e w' => e = .returned (.bool true) ∧ Below w.heap.size w w' := by
  have HB := Aside0.mk (Below.refl w.heap.size w)
  have A2 := Aside0.mk g0; have A4 := Aside0.mk g1; have A5 := Aside0.mk g2; have A7 := Aside0.mk g3; have A8 := Aside0.mk g4; have A10 := Aside0.mk g5; have A11 := Aside0.mk g6
  clear g0 g1 g2 g3 g4 g5 g6
  go_enter Try.func5, Try.ntmps5
  go_wp2_with (first | ((with_reducible refine gate_callee (f := 8) rfl ?_); refine goesL_ (some 3) rfl rfl Try.func8 (by kernel_rfl) rfl #[] rfl (by (try simp only [List.map_toArray, List.map_cons, List.map_nil]); first | done | rfl | (simp only [List.length_drop, List.length_take]; rfl)) ?_; (with_reducible refine (regletlaw06_holds.calls k  true _ A2.out).mono ?_); rintro e w24 ⟨rfl, hb⟩; refine ⟨_, rfl, ?_⟩; have n0_ := Aside0.mk (below_step (by repeat (first | (with_reducible first | exact HB.out | apply below_alloc | apply pw_below_drewN | apply below_drew1) | exact HB.out)) hb); clear HB; have HB := n0_; clear n0_; (try clear hb); (try clear hb2); (try clear hk); (try clear hi)) | ((with_reducible refine gate_callee (f := 12) rfl ?_); refine goesL_ (some 6) rfl rfl Try.func12 (by kernel_rfl) rfl #[.int .i64 a0] rfl (by (try simp only [List.map_toArray, List.map_cons, List.map_nil]); first | done | rfl | (simp only [List.length_drop, List.length_take]; rfl)) ?_; (with_reducible refine (code_Size.calls k a0 s _ A4.out).mono ?_); rintro e w' ⟨rfl, ⟨nd, rfl⟩⟩; refine ⟨_, rfl, ?_⟩) | ((with_reducible refine gate_callee (f := 13) rfl ?_); refine goesL_ (some 8) rfl rfl Try.func13 (by kernel_rfl) rfl #[.int .i64 a0] rfl (by (try simp only [List.map_toArray, List.map_cons, List.map_nil]); first | done | rfl | (simp only [List.length_drop, List.length_take]; rfl)) ?_; (with_reducible refine (regletref06_Size.calls k a0 s _ A5.out).mono ?_); rintro e w25 ⟨rfl, hb⟩; refine ⟨_, rfl, ?_⟩; have n0_ := Aside0.mk (below_step (by repeat (first | (with_reducible first | exact HB.out | apply below_alloc | apply pw_below_drewN | apply below_drew1) | exact HB.out)) hb); clear HB; have HB := n0_; clear n0_; (try clear hb); (try clear hb2); (try clear hk); (try clear hi)) | (go_at_call 14; (with_reducible refine (code_Leads.calls a0 true _ A7.out).mono ?_); rintro e w' ⟨rfl, ⟨nd, rfl⟩⟩) | (go_at_call 15; (with_reducible refine (regletref06_Leads.calls a0 true _ A8.out).mono ?_); rintro e w' ⟨rfl, ⟨nd, rfl⟩⟩) | (go_at_call 16; (with_reducible refine (code_Ends.calls a0 false _ A10.out).mono ?_); rintro e w' ⟨rfl, ⟨nd, rfl⟩⟩) | (go_at_call 17; (with_reducible refine (regletref06_Ends.calls k a0 false _ A11.out).mono ?_); rintro e w26 ⟨rfl, hb⟩; have n0_ := Aside0.mk (below_step (by repeat (first | (with_reducible first | exact HB.out | apply below_alloc | apply pw_below_drewN | apply below_drew1) | exact HB.out)) hb); clear HB; have HB := n0_; clear n0_; (try clear hb); (try clear hb2); (try clear hk); (try clear hi)) | (go_at_call 12; (with_reducible refine (code_Size.calls k a0 s _ A4.out).mono ?_); rintro e w' ⟨rfl, ⟨nd, rfl⟩⟩))
  go_ret
  exact ⟨rfl, by repeat (first | (with_reducible first | exact HB.out | apply below_alloc | apply pw_below_drewN | apply below_drew1) | exact HB.out)⟩

set_option maxHeartbeats 8000000 in
set_option maxRecDepth 100000 in
theorem sizes_false_true_true (k : Nat) (a0 s : Int) (w : World) (hd : decide (0 < s) = true) (g0 : regletlaw06_holds.f k = some true) (g1 : code_Size.f k a0 = some s) (g2 : regletref06_Size.f k a0 = some s)
    (g3 : code_Leads.f a0 = some false) (g4 : regletref06_Leads.f a0 = some false) (g5 : code_Ends.f a0 = some true) (g6 : regletref06_Ends.f k a0 = some true) :
    Calls Try.prog 5 #[.int .i64 a0] w fun e w' => e = .returned (.bool true) ∧ Below w.heap.size w w' := by
  have HB := Aside0.mk (Below.refl w.heap.size w)
  have A2 := Aside0.mk g0; have A4 := Aside0.mk g1; have A5 := Aside0.mk g2; have A7 := Aside0.mk g3; have A8 := Aside0.mk g4; have A10 := Aside0.mk g5; have A11 := Aside0.mk g6
  clear g0 g1 g2 g3 g4 g5 g6
  go_enter Try.func5, Try.ntmps5
  go_wp2_with (first | ((with_reducible refine gate_callee (f := 8) rfl ?_); refine goesL_ (some 3) rfl rfl Try.func8 (by kernel_rfl) rfl #[] rfl (by (try simp only [List.map_toArray, List.map_cons, List.map_nil]); first | done | rfl | (simp only [List.length_drop, List.length_take]; rfl)) ?_; (with_reducible refine (regletlaw06_holds.calls k  true _ A2.out).mono ?_); rintro e w24 ⟨rfl, hb⟩; refine ⟨_, rfl, ?_⟩; have n0_ := Aside0.mk (below_step (by repeat (first | (with_reducible first | exact HB.out | apply below_alloc | apply pw_below_drewN | apply below_drew1) | exact HB.out)) hb); clear HB; have HB := n0_; clear n0_; (try clear hb); (try clear hb2); (try clear hk); (try clear hi)) | ((with_reducible refine gate_callee (f := 12) rfl ?_); refine goesL_ (some 6) rfl rfl Try.func12 (by kernel_rfl) rfl #[.int .i64 a0] rfl (by (try simp only [List.map_toArray, List.map_cons, List.map_nil]); first | done | rfl | (simp only [List.length_drop, List.length_take]; rfl)) ?_; (with_reducible refine (code_Size.calls k a0 s _ A4.out).mono ?_); rintro e w' ⟨rfl, ⟨nd, rfl⟩⟩; refine ⟨_, rfl, ?_⟩) | ((with_reducible refine gate_callee (f := 13) rfl ?_); refine goesL_ (some 8) rfl rfl Try.func13 (by kernel_rfl) rfl #[.int .i64 a0] rfl (by (try simp only [List.map_toArray, List.map_cons, List.map_nil]); first | done | rfl | (simp only [List.length_drop, List.length_take]; rfl)) ?_; (with_reducible refine (regletref06_Size.calls k a0 s _ A5.out).mono ?_); rintro e w25 ⟨rfl, hb⟩; refine ⟨_, rfl, ?_⟩; have n0_ := Aside0.mk (below_step (by repeat (first | (with_reducible first | exact HB.out | apply below_alloc | apply pw_below_drewN | apply below_drew1) | exact HB.out)) hb); clear HB; have HB := n0_; clear n0_; (try clear hb); (try clear hb2); (try clear hk); (try clear hi)) | (go_at_call 14; (with_reducible refine (code_Leads.calls a0 false _ A7.out).mono ?_); rintro e w' ⟨rfl, ⟨nd, rfl⟩⟩) | (go_at_call 15; (with_reducible refine (regletref06_Leads.calls a0 false _ A8.out).mono ?_); rintro e w' ⟨rfl, ⟨nd, rfl⟩⟩) | (go_at_call 16; (with_reducible refine (code_Ends.calls a0 true _ A10.out).mono ?_); rintro e w' ⟨rfl, ⟨nd, rfl⟩⟩) | (go_at_call 17; (with_reducible refine (regletref06_Ends.calls k a0 true _ A11.out).mono ?_); rintro e w26 ⟨rfl, hb⟩; have n0_ := Aside0.mk (below_step (by repeat (first | (with_reducible first | exact HB.out | apply below_alloc | apply pw_below_drewN | apply below_drew1) | exact HB.out)) hb); clear HB; have HB := n0_; clear n0_; (try clear hb); (try clear hb2); (try clear hk); (try clear hi)) | (go_at_call 12; (with_reducible refine (code_Size.calls k a0 s _ A4.out).mono ?_); rintro e w' ⟨rfl, ⟨nd, rfl⟩⟩))
  go_ret
  exact ⟨rfl, by repeat (first | (with_reducible first | exact HB.out | apply below_alloc | apply pw_below_drewN | apply below_drew1) | exact HB.out)⟩

set_option maxHeartbeats 8000000 in
set_option maxRecDepth 100000 in
theorem sizes_false_false_true (k : Nat) (a0 s : Int) (w : World) (hd : decide (0 < s) = true) (g0 : regletlaw06_holds.f k = some true) (g1 : code_Size.f k a0 = some s) (g2 : regletref06_Size.f k a0 = some s)
    (g3 : code_Leads.f a0 = some false) (g4 : regletref06_Leads.f a0 = some false) (g5 : code_Ends.f a0 = some false) (g6 : regletref06_Ends.f k a0 = some false) :
    Calls Try.prog 5 #[.int .i64 a0] w fun e w' => e = .returned (.bool true) ∧ Below w.heap.size w w' := by
  have HB := Aside0.mk (Below.refl w.heap.size w)
  have A2 := Aside0.mk g0; have A4 := Aside0.mk g1; have A5 := Aside0.mk g2; have A7 := Aside0.mk g3; have A8 := Aside0.mk g4; have A10 := Aside0.mk g5; have A11 := Aside0.mk g6
  clear g0 g1 g2 g3 g4 g5 g6
  go_enter Try.func5, Try.ntmps5
  go_wp2_with (first | ((with_reducible refine gate_callee (f := 8) rfl ?_); refine goesL_ (some 3) rfl rfl Try.func8 (by kernel_rfl) rfl #[] rfl (by (try simp only [List.map_toArray, List.map_cons, List.map_nil]); first | done | rfl | (simp only [List.length_drop, List.length_take]; rfl)) ?_; (with_reducible refine (regletlaw06_holds.calls k  true _ A2.out).mono ?_); rintro e w24 ⟨rfl, hb⟩; refine ⟨_, rfl, ?_⟩; have n0_ := Aside0.mk (below_step (by repeat (first | (with_reducible first | exact HB.out | apply below_alloc | apply pw_below_drewN | apply below_drew1) | exact HB.out)) hb); clear HB; have HB := n0_; clear n0_; (try clear hb); (try clear hb2); (try clear hk); (try clear hi)) | ((with_reducible refine gate_callee (f := 12) rfl ?_); refine goesL_ (some 6) rfl rfl Try.func12 (by kernel_rfl) rfl #[.int .i64 a0] rfl (by (try simp only [List.map_toArray, List.map_cons, List.map_nil]); first | done | rfl | (simp only [List.length_drop, List.length_take]; rfl)) ?_; (with_reducible refine (code_Size.calls k a0 s _ A4.out).mono ?_); rintro e w' ⟨rfl, ⟨nd, rfl⟩⟩; refine ⟨_, rfl, ?_⟩) | ((with_reducible refine gate_callee (f := 13) rfl ?_); refine goesL_ (some 8) rfl rfl Try.func13 (by kernel_rfl) rfl #[.int .i64 a0] rfl (by (try simp only [List.map_toArray, List.map_cons, List.map_nil]); first | done | rfl | (simp only [List.length_drop, List.length_take]; rfl)) ?_; (with_reducible refine (regletref06_Size.calls k a0 s _ A5.out).mono ?_); rintro e w25 ⟨rfl, hb⟩; refine ⟨_, rfl, ?_⟩; have n0_ := Aside0.mk (below_step (by repeat (first | (with_reducible first | exact HB.out | apply below_alloc | apply pw_below_drewN | apply below_drew1) | exact HB.out)) hb); clear HB; have HB := n0_; clear n0_; (try clear hb); (try clear hb2); (try clear hk); (try clear hi)) | (go_at_call 14; (with_reducible refine (code_Leads.calls a0 false _ A7.out).mono ?_); rintro e w' ⟨rfl, ⟨nd, rfl⟩⟩) | (go_at_call 15; (with_reducible refine (regletref06_Leads.calls a0 false _ A8.out).mono ?_); rintro e w' ⟨rfl, ⟨nd, rfl⟩⟩) | (go_at_call 16; (with_reducible refine (code_Ends.calls a0 false _ A10.out).mono ?_); rintro e w' ⟨rfl, ⟨nd, rfl⟩⟩) | (go_at_call 17; (with_reducible refine (regletref06_Ends.calls k a0 false _ A11.out).mono ?_); rintro e w26 ⟨rfl, hb⟩; have n0_ := Aside0.mk (below_step (by repeat (first | (with_reducible first | exact HB.out | apply below_alloc | apply pw_below_drewN | apply below_drew1) | exact HB.out)) hb); clear HB; have HB := n0_; clear n0_; (try clear hb); (try clear hb2); (try clear hk); (try clear hi)) | (go_at_call 12; (with_reducible refine (code_Size.calls k a0 s _ A4.out).mono ?_); rintro e w' ⟨rfl, ⟨nd, rfl⟩⟩))
  go_ret
  exact ⟨rfl, by repeat (first | (with_reducible first | exact HB.out | apply below_alloc | apply pw_below_drewN | apply below_drew1) | exact HB.out)⟩

set_option maxHeartbeats 8000000 in
set_option maxRecDepth 100000 in
theorem sizes_false_false_false (k : Nat) (a0 s : Int) (w : World) (hd : decide (0 < s) = false) (g0 : regletlaw06_holds.f k = some true) (g1 : code_Size.f k a0 = some s) (g2 : regletref06_Size.f k a0 = some s)
    (g3 : code_Leads.f a0 = some false) (g4 : regletref06_Leads.f a0 = some false) (g5 : code_Ends.f a0 = some false) (g6 : regletref06_Ends.f k a0 = some false) :
    Calls Try.prog 5 #[.int .i64 a0] w fun e w' => e = .returned (.bool true) ∧ Below w.heap.size w w' := by
  have HB := Aside0.mk (Below.refl w.heap.size w)
  have A2 := Aside0.mk g0; have A4 := Aside0.mk g1; have A5 := Aside0.mk g2; have A7 := Aside0.mk g3; have A8 := Aside0.mk g4; have A10 := Aside0.mk g5; have A11 := Aside0.mk g6
  clear g0 g1 g2 g3 g4 g5 g6
  go_enter Try.func5, Try.ntmps5
  go_wp2_with (first | ((with_reducible refine gate_callee (f := 8) rfl ?_); refine goesL_ (some 3) rfl rfl Try.func8 (by kernel_rfl) rfl #[] rfl (by (try simp only [List.map_toArray, List.map_cons, List.map_nil]); first | done | rfl | (simp only [List.length_drop, List.length_take]; rfl)) ?_; (with_reducible refine (regletlaw06_holds.calls k  true _ A2.out).mono ?_); rintro e w24 ⟨rfl, hb⟩; refine ⟨_, rfl, ?_⟩; have n0_ := Aside0.mk (below_step (by repeat (first | (with_reducible first | exact HB.out | apply below_alloc | apply pw_below_drewN | apply below_drew1) | exact HB.out)) hb); clear HB; have HB := n0_; clear n0_; (try clear hb); (try clear hb2); (try clear hk); (try clear hi)) | ((with_reducible refine gate_callee (f := 12) rfl ?_); refine goesL_ (some 6) rfl rfl Try.func12 (by kernel_rfl) rfl #[.int .i64 a0] rfl (by (try simp only [List.map_toArray, List.map_cons, List.map_nil]); first | done | rfl | (simp only [List.length_drop, List.length_take]; rfl)) ?_; (with_reducible refine (code_Size.calls k a0 s _ A4.out).mono ?_); rintro e w' ⟨rfl, ⟨nd, rfl⟩⟩; refine ⟨_, rfl, ?_⟩) | ((with_reducible refine gate_callee (f := 13) rfl ?_); refine goesL_ (some 8) rfl rfl Try.func13 (by kernel_rfl) rfl #[.int .i64 a0] rfl (by (try simp only [List.map_toArray, List.map_cons, List.map_nil]); first | done | rfl | (simp only [List.length_drop, List.length_take]; rfl)) ?_; (with_reducible refine (regletref06_Size.calls k a0 s _ A5.out).mono ?_); rintro e w25 ⟨rfl, hb⟩; refine ⟨_, rfl, ?_⟩; have n0_ := Aside0.mk (below_step (by repeat (first | (with_reducible first | exact HB.out | apply below_alloc | apply pw_below_drewN | apply below_drew1) | exact HB.out)) hb); clear HB; have HB := n0_; clear n0_; (try clear hb); (try clear hb2); (try clear hk); (try clear hi)) | (go_at_call 14; (with_reducible refine (code_Leads.calls a0 false _ A7.out).mono ?_); rintro e w' ⟨rfl, ⟨nd, rfl⟩⟩) | (go_at_call 15; (with_reducible refine (regletref06_Leads.calls a0 false _ A8.out).mono ?_); rintro e w' ⟨rfl, ⟨nd, rfl⟩⟩) | (go_at_call 16; (with_reducible refine (code_Ends.calls a0 false _ A10.out).mono ?_); rintro e w' ⟨rfl, ⟨nd, rfl⟩⟩) | (go_at_call 17; (with_reducible refine (regletref06_Ends.calls k a0 false _ A11.out).mono ?_); rintro e w26 ⟨rfl, hb⟩; have n0_ := Aside0.mk (below_step (by repeat (first | (with_reducible first | exact HB.out | apply below_alloc | apply pw_below_drewN | apply below_drew1) | exact HB.out)) hb); clear HB; have HB := n0_; clear n0_; (try clear hb); (try clear hb2); (try clear hk); (try clear hi)) | (go_at_call 12; (with_reducible refine (code_Size.calls k a0 s _ A4.out).mono ?_); rintro e w' ⟨rfl, ⟨nd, rfl⟩⟩))
  go_ret
  exact ⟨rfl, by repeat (first | (with_reducible first | exact HB.out | apply below_alloc | apply pw_below_drewN | apply below_drew1) | exact HB.out)⟩

theorem leads_some (c : Int) : code_Leads.f c = some (decide (153 ≤ c ∧ c ≤ 167 ∨ c = 198 ∨ c = 199)) ∧ regletref06_Leads.f c = some (decide (153 ≤ c ∧ c ≤ 167 ∨ c = 198 ∨ c = 199)) := by
  have h : code_Leads.f c = some (decide (153 ≤ c ∧ c ≤ 167 ∨ c = 198 ∨ c = 199)) := by
    unfold code_Leads.f
    by_cases h1 : c ≥ 153
    · rw [if_pos h1]
      by_cases h2 : c ≤ 167
      · rw [if_pos h2]; congr 1; simp; omega
      · rw [if_neg h2]
        by_cases h3 : c = 198
        · rw [if_pos h3]; congr 1; simp; omega
        · rw [if_neg h3]; congr 1
          by_cases h4 : c = 199
          · subst h4; decide
          · rw [decide_eq_false (by omega)]; simpa using h4
    · rw [if_neg h1]
      by_cases h3 : c = 198
      · omega
      · rw [if_neg h3]; congr 1
        rw [decide_eq_false (by omega)]; simp; omega
  exact ⟨h, h⟩

theorem ends_some (k : Nat) (hk : 10 < k) (c : Int) : code_Ends.f c = some (decide (c ∈ ([167, 172, 173, 176, 177, 191] : List Int))) ∧ regletref06_Ends.f k c = some (decide (c ∈ ([167, 172, 173, 176, 177, 191] : List Int))) := by
  constructor
  · unfold code_Ends.f
    by_cases h1 : c = 167
    · subst h1; rfl
    by_cases h2 : c = 172
    · subst h2; rfl
    by_cases h3 : c = 173
    · subst h3; rfl
    by_cases h4 : c = 176
    · subst h4; rfl
    by_cases h5 : c = 177
    · subst h5; rfl
    rw [if_neg h1, if_neg h2, if_neg h3, if_neg h4, if_neg h5]
    congr 1
    by_cases h6 : c = 191
    · subst h6; rfl
    · rw [decide_eq_false (by simp only [List.mem_cons, List.not_mem_nil, or_false]; omega)]; simpa using h6
  · unfold regletref06_Ends.f
    rw [among_some _ _ _ (by decide) (by simp; omega), Option.bind_some]


theorem codeSizes_walk (c : Int) (w : World) (_h : (Lit.int .i64 c).wf = true) : Calls Try.prog 5 #[.int .i64 c] w fun e w' => e = .returned (.bool true) ∧ Below w.heap.size w w' := by
  obtain ⟨l1, l2⟩ := leads_some c
  obtain ⟨e1, e2⟩ := ends_some 100 (by decide) c
  have g0 := holds_some 100 (by decide)
  have key : ∃ s, code_Size.f 100 c = some s ∧ regletref06_Size.f 100 c = some s ∧ (0 < s ∨ (decide (153 ≤ c ∧ c ≤ 167 ∨ c = 198 ∨ c = 199) = false ∧ decide (c ∈ ([167, 172, 173, 176, 177, 191] : List Int)) = false ∧ decide (0 < s) = false)) := by
    by_cases h : 0 ≤ c ∧ c ≤ 255
    · obtain ⟨p, hp, h1, h2⟩ := table c h.1 h.2
      have s1 := code_size_of 99 c p.1 h.1 h.2 (shape_le (by decide) h1)
      have hr : 0 ≤ p.2 ∧ p.2 ≤ 7 := by simp [pairs] at hp; rcases hp with rfl | rfl | rfl | rfl | rfl | rfl | rfl | rfl <;> decide
      have s2 := ref_size_of 100 c p.2 (row_le (by decide) h2) hr
      have es : (if p.1 = -1 then (0 : Int) else if p.1 = 0 then 1 else if p.1 = 1 then 2 else if p.1 = 2 then 2 else 3) = rowSize p.2 := by
        simp [pairs] at hp; rcases hp with rfl | rfl | rfl | rfl | rfl | rfl | rfl | rfl <;> decide
      rw [es] at s1
      refine ⟨_, s1, s2, ?_⟩
      by_cases hz : 0 < rowSize p.2
      · exact .inl hz
      · have h0 : p.1 = -1 := by
          simp [pairs] at hp; rcases hp with rfl | rfl | rfl | rfl | rfl | rfl | rfl | rfl <;> first | rfl | (exact absurd (by decide) hz)
        have none_lead : ∀ n : Fin 256, code_shape.f 10 (n.val : Int) = some (-1) → ¬ (153 ≤ (n.val : Int) ∧ (n.val : Int) ≤ 167 ∨ (n.val : Int) = 198 ∨ (n.val : Int) = 199) ∧ ¬ ((n.val : Int) ∈ ([167, 172, 173, 176, 177, 191] : List Int)) := by decide +kernel
        have := none_lead ⟨c.toNat, by omega⟩
        simp only [Int.toNat_of_nonneg h.1] at this
        obtain ⟨n1, n2⟩ := this (by rw [h1, h0])
        exact .inr ⟨decide_eq_false n1, decide_eq_false n2, decide_eq_false hz⟩
    · have hout : c < 0 ∨ 255 < c := by omega
      exact ⟨0, code_size_out 99 c hout, ref_size_of 100 c 0 (row_out 100 (by decide) c hout) (by decide), .inr ⟨decide_eq_false (by omega), decide_eq_false (by simp only [List.mem_cons, List.not_mem_nil, or_false]; omega), by decide⟩⟩
  obtain ⟨s, s1, s2, hs⟩ := key
  revert l1 l2 e1 e2 hs
  generalize decide (153 ≤ c ∧ c ≤ 167 ∨ c = 198 ∨ c = 199) = L
  generalize decide (c ∈ ([167, 172, 173, 176, 177, 191] : List Int)) = E
  intro l1 l2 e1 e2 hs
  rcases hs with hs | ⟨rfl, rfl, hs⟩
  · have hd : decide (0 < s) = true := decide_eq_true hs
    cases L
    · cases E
      · exact sizes_false_false_true 100 c s w hd g0 s1 s2 l1 l2 e1 e2
      · exact sizes_false_true_true 100 c s w hd g0 s1 s2 l1 l2 e1 e2
    · cases E
      · exact sizes_true_false_true 100 c s w hd g0 s1 s2 l1 l2 e1 e2
      · exact sizes_true_true_true 100 c s w hd g0 s1 s2 l1 l2 e1 e2
  · exact sizes_false_false_false 100 c s w hs g0 s1 s2 l1 l2 e1 e2

end Go.Proofs.Ytbicilgcmopidaa.PAll
