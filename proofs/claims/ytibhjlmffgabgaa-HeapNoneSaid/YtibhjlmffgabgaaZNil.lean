import Derived.Test.YtibhjlmffgabgaaZReached
namespace Go.Proofs.Ytibhjlmffgabgaa.PAll
open Go.RowKit Go.Proofs.YtibhjlmffgabgaaW.PrintWords Go.Proofs.YtibhjlmffgabgaaW.PrintLast Go.Proofs.YtibhjlmffgabgaaW.PrintMore
open Go.Proofs.Ytibhjlmffgabgaa.MapInt
set_option linter.unusedVariables false
set_option linter.unusedSimpArgs false
set_option maxHeartbeats 8000000
set_option maxRecDepth 100000
theorem object_nil (w : World) (v : Value) : Calls Try.prog 15 #[.pointer none, v] w fun e w' => e = .returned (.int .i64 (-1)) ∧ Below w.heap.size w w' := by
  go_enter Try.func15, Try.ntmps15
  go_wp2_with fail
  (try go_ret)
  exact ⟨rfl, Below.refl _ _⟩
theorem array_nil (w : World) (v : Value) : Calls Try.prog 11 #[.pointer none, v] w fun e w' => e = .returned (.int .i64 (-1)) ∧ Below w.heap.size w w' := by
  go_enter Try.func11, Try.ntmps11
  go_wp2_with fail
  (try go_ret)
  exact ⟨rfl, Below.refl _ _⟩
theorem size_nil (w : World) (v u : Value) : Calls Try.prog 25 #[.pointer none, v, u] w fun e w' => e = .returned (.int .i64 (-1)) ∧ Below w.heap.size w w' := by
  go_enter Try.func25, Try.ntmps25
  go_wp2_with fail
  (try go_ret)
  exact ⟨rfl, Below.refl _ _⟩
theorem free_nil (w : World) : Calls Try.prog 13 #[.pointer none] w fun e w' => e = .returned (.int .i64 0) ∧ Below w.heap.size w w' := by
  go_enter Try.func13, Try.ntmps13
  go_wp2_with fail
  (try go_ret)
  exact ⟨rfl, Below.refl _ _⟩
theorem moved_nil (w : World) : Calls Try.prog 32 #[.pointer none] w fun e w' => e = .returned (.int .i64 0) ∧ Below w.heap.size w w' := by
  go_enter Try.func32, Try.ntmps32
  go_wp2_with fail
  (try go_ret)
  exact ⟨rfl, Below.refl _ _⟩
theorem reached_nil (w : World) (v : Value) : Calls Try.prog 17 #[.pointer none, v] w fun e w' => e = .returned (.int .i64 0) ∧ Below w.heap.size w w' := by
  go_enter Try.func17, Try.ntmps17
  go_wp2_with fail
  (try go_ret)
  exact ⟨rfl, Below.refl _ _⟩
theorem clear_nil (w : World) (v : Value) : Calls Try.prog 14 #[.pointer none, v] w fun e w' => e = .returned (.slice none 0 0) ∧ Below w.heap.size w w' := by
  go_enter Try.func14, Try.ntmps14
  go_wp2_with fail
  (try go_ret)
  exact ⟨rfl, Below.refl _ _⟩
theorem ins_nil (w : World) (a : Int) : Calls Try.prog 41 #[.pointer none, .int .i64 a] w fun e w' => e = .returned (.bool false) ∧ Below w.heap.size w w' := by
  go_enter Try.func41, Try.ntmps41
  go_wp2_with fail
  (try go_ret)
  exact ⟨rfl, Below.refl _ _⟩
theorem make_nil (w : World) (s n : Int) : Calls Try.prog 12 #[.pointer none, .int .i64 s, .int .i64 n] w fun e w' => e = .returned (.int .i64 0) ∧ Below w.heap.size w w' := by
  go_enter Try.func12, Try.ntmps12
  go_wp2_with (first | (go_at_call 25; (with_reducible refine (size_nil _ _ _).mono ?_); rintro e w1 ⟨rfl, hb⟩; have HB := Aside0.mk hb; clear hb))
  (try go_ret)
  exact ⟨rfl, HB.out⟩
theorem shape_nil (w : World) (a : Int) : Calls Try.prog 21 #[.pointer none, .int .i64 a] w fun e w' => e = .returned (.int .i64 (-1)) ∧ Below w.heap.size w w' := by
  go_enter Try.func21, Try.ntmps21
  go_wp2_with (first | (go_at_call 41; (with_reducible refine (ins_nil _ _).mono ?_); rintro e w1 ⟨rfl, hb⟩; have HB := Aside0.mk hb; clear hb))
  (try go_ret)
  exact ⟨rfl, HB.out⟩
theorem len_nil_ (w : World) (a : Int) : Calls Try.prog 35 #[.pointer none, .int .i64 a] w fun e w' => e = .returned (.int .i64 0) ∧ Below w.heap.size w w' := by
  go_enter Try.func35, Try.ntmps35
  go_wp2_with (first | (go_at_call 41; (with_reducible refine (ins_nil _ _).mono ?_); rintro e w1 ⟨rfl, hb⟩; have HB := Aside0.mk hb; clear hb))
  (try go_ret)
  exact ⟨rfl, HB.out⟩
theorem place_nil (w : World) (a i : Int) : Calls Try.prog 39 #[.pointer none, .int .i64 a, .int .i64 i] w fun e w' => e = .returned (.int .i64 0) ∧ Below w.heap.size w w' := by
  by_cases h : i < 0
  · go_enter Try.func39, Try.ntmps39
    go_wp2_with fail
    (try go_ret)
    exact ⟨rfl, Below.refl _ _⟩
  · have h2 : 0 ≤ i := by omega
    have h3 : ¬ i < 0 := h
    go_enter Try.func39, Try.ntmps39
    go_wp2_with (first | ((try (refine gate_guard (by rfl) ?_; dsimp only)); go_at_call 35; (with_reducible refine (len_nil_ _ _).mono ?_); rintro e w1 ⟨rfl, hb⟩; have HB := Aside0.mk hb; clear hb))
    (try go_ret)
    exact ⟨rfl, HB.out⟩
theorem get_nil (w : World) (a i : Int) : Calls Try.prog 20 #[.pointer none, .int .i64 a, .int .i64 i] w fun e w' => e = .returned (.int .i64 0) ∧ Below w.heap.size w w' := by
  go_enter Try.func20, Try.ntmps20
  go_wp2_with (first | (go_at_call 39; (with_reducible refine (place_nil _ _ _).mono ?_); rintro e w1 ⟨rfl, hb⟩; have HB := Aside0.mk hb; clear hb))
  (try go_ret)
  exact ⟨rfl, HB.out⟩
theorem set_nil (w : World) (a i x : Int) : Calls Try.prog 16 #[.pointer none, .int .i64 a, .int .i64 i, .int .i64 x] w fun e w' => e = .returned (.tuple #[]) ∧ Below w.heap.size w w' := by
  go_enter Try.func16, Try.ntmps16
  go_wp2_with (first | (go_at_call 39; (with_reducible refine (place_nil _ _ _).mono ?_); rintro e w1 ⟨rfl, hb⟩; have HB := Aside0.mk hb; clear hb))
  (try go_end0)
  exact ⟨rfl, HB.out⟩
end Go.Proofs.Ytibhjlmffgabgaa.PAll
