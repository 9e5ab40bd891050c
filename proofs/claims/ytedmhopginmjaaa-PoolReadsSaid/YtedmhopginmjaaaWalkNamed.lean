-- only 03
/-
  The walk of the law PoolNamed.
-/
import Derived.Test.YtedmhopginmjaaaHolds
namespace Go.Proofs.Ytedmhopginmjaaa.PAll
open Go.RowKit Go.Proofs.YtedmhopginmjaaaW.PrintWords Go.Proofs.YtedmhopginmjaaaW.PrintLast Go.Proofs.YtedmhopginmjaaaW.PrintMore
open Go.Proofs.Ytedmhopginmjaaa.MapInt
set_option linter.unusedVariables false
set_option linter.unusedSimpArgs false
theorem drawn0_below {w w' : World} (h : Drawn0 w w') : Below w.heap.size w w' := by
  obtain ⟨n, rfl⟩ := h; exact pw_below_drewN (Below.refl _ _) n
set_option maxHeartbeats 8000000 in
theorem left_nil (w : World) : Calls Try.prog 14 #[.pointer none] w fun e w' => e = .returned (.tuple #[.int .i64 0, .bool false]) ∧ w' = w := by
  go_enter Try.func14, Try.ntmps14
  go_wp2_with fail
  go_ret2
  exact ⟨rfl, rfl⟩
set_option maxHeartbeats 8000000 in
theorem num_nil (w : World) (n : Int) : Calls Try.prog 10 #[.pointer none, .int .i64 n] w fun e w' => e = .returned (.int .u64 0) ∧ w' = w := by
  go_enter Try.func10, Try.ntmps10
  go_wp2_with fail
  (try go_ret)
  exact ⟨rfl, rfl⟩
set_option maxHeartbeats 8000000 in
theorem take_nil (w : World) (n : Int) : Calls Try.prog 12 #[.pointer none, .int .i64 n] w fun e w' => e = .returned (.string ⟨#[]⟩) ∧ w' = w := by
  go_enter Try.func12, Try.ntmps12
  go_wp2_with fail
  (try go_ret)
  exact ⟨rfl, rfl⟩
set_option maxHeartbeats 8000000 in
set_option maxRecDepth 100000 in
theorem poolNamed_walk (a0 : ByteArray) (a1 : Int) (w : World) (w0 : a0.size ≤ 140737488351232) (w1 : (Lit.int .i64 a1).wf = true) :
    Calls Try.prog 7 #[.string a0, .int .i64 a1] w fun e w' => e = .returned (.bool true) ∧ Below w.heap.size w w' := by
  have hb : (bl a0).length ≤ big := by rw [bl_len]; unfold big; omega
  have e1 := named_eval (bl a0) hb _ (Nat.le_refl _)
  have e2 := rnamed_eval (bl a0) hb _ (Nat.le_refl _)
  rw [ba_bl] at e1 e2
  generalize namedL (bl a0) = b at *
  have E1 := Aside0.mk e1
  have E2 := Aside0.mk e2
  clear e1 e2 hb w0
  have HB := Aside0.mk (Below.refl w.heap.size w)
  go_enter Try.func7, Try.ntmps7
  go_wp2_with (first | (go_at_call 8; (with_reducible refine (holds_calls _).mono ?_); rintro e w1 ⟨rfl, hb1⟩; have n_ := Aside0.mk (below_step HB.out hb1); clear HB hb1; have HB := n_; clear n_) | (go_at_call 14; (with_reducible refine (left_nil _).mono ?_); rintro e w2 ⟨rfl, rfl⟩) | (go_at_call 10; (with_reducible refine (num_nil _ _).mono ?_); rintro e w2 ⟨rfl, rfl⟩) | (go_at_call 12; (with_reducible refine (take_nil _ _).mono ?_); rintro e w2 ⟨rfl, rfl⟩) | (go_at_call 20; (with_reducible refine (pool_Named.calls _ _ _ _ E1.out).mono ?_); rintro e w3 ⟨rfl, hd⟩; have n_ := Aside0.mk (below_step HB.out hd); clear HB hd; have HB := n_; clear n_) | (go_at_call 21; (with_reducible refine (regletref03_Named.calls _ _ _ _ E2.out).mono ?_); rintro e w3 ⟨rfl, hd⟩; have n_ := Aside0.mk (below_step HB.out (drawn0_below hd)); clear HB hd; have HB := n_; clear n_))
  (try go_ret)
  exact ⟨rfl, HB.out⟩
end Go.Proofs.Ytedmhopginmjaaa.PAll
