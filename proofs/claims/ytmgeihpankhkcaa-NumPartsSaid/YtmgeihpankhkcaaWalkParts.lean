/-
  The walk of NumParts, one theorem for each way through its tests (printed by wip/num/genparts.py).
-/
import Derived.Test.YtmgeihpankhkcaaNumAll
namespace Go.Proofs.Ytmgeihpankhkcaa.PAll
open Go.RowKit Go.Proofs.YtmgeihpankhkcaaW.PrintWords Go.Proofs.YtmgeihpankhkcaaW.PrintLast Go.Proofs.YtmgeihpankhkcaaW.PrintMore Go.Proofs.Ytmgeihpankhkcaa.Plain
set_option linter.unusedVariables false

set_option maxHeartbeats 8000000 in
set_option maxRecDepth 100000 in
theorem parts_zero (a b q r c d : Int) (w : World) (h1 : num_Long.f 1 109 a b = some q) (h2 : num_Long.f 1 113 a b = some r) (h3 : num_Int.f 1 108 (wrap32 a) (wrap32 b) = some c) (h4 : num_Int.f 1 112 (wrap32 a) (wrap32 b) = some d)
    (f0 : (b == 0) = true) (f1 : (q == 0) = true) (f2 : (r == 0) = true) :
    Calls Try.prog 5 #[.int .i64 a, .int .i64 b] w fun e w' => e = .returned (.bool true) ∧ Drawn0 w w' := by
  have H1 := Aside0.mk h1; have H2 := Aside0.mk h2; have H3 := Aside0.mk h3; have H4 := Aside0.mk h4
  clear h1 h2 h3 h4
  go_enter Try.func5, Try.ntmps5
  go_wp2_with (first | (go_at_call 12; refine (regletlaw01_holds.calls 1 true _ (holds_some 0)).mono ?_; rintro e w' ⟨rfl, ⟨nd, rfl⟩⟩) | (go_at_call 15; (with_reducible refine (num_Long.calls 1 109 a b q _ H1.out).mono ?_); rintro e w' ⟨rfl, ⟨nd, rfl⟩⟩) | (go_at_call 15; (with_reducible refine (num_Long.calls 1 113 a b r _ H2.out).mono ?_); rintro e w' ⟨rfl, ⟨nd, rfl⟩⟩) | (go_at_call 14; (with_reducible refine (num_Int.calls 1 108 (wrap32 a) (wrap32 b) c _ H3.out).mono ?_); rintro e w' ⟨rfl, ⟨nd, rfl⟩⟩) | (go_at_call 14; (with_reducible refine (num_Int.calls 1 112 (wrap32 a) (wrap32 b) d _ H4.out).mono ?_); rintro e w' ⟨rfl, ⟨nd, rfl⟩⟩))
  go_ret
  exact ⟨rfl, by repeat (first | exact Drawn0.refl _ | apply Drawn0.step)⟩

set_option maxHeartbeats 8000000 in
set_option maxRecDepth 100000 in
theorem parts_S1z0 (a b q r c d : Int) (w : World) (h1 : num_Long.f 1 109 a b = some q) (h2 : num_Long.f 1 113 a b = some r) (h3 : num_Int.f 1 108 (wrap32 a) (wrap32 b) = some c) (h4 : num_Int.f 1 112 (wrap32 a) (wrap32 b) = some d)
    (f0 : (b == 0) = false) (f1 : (b == (-9223372036854775808)) = true) (f2 : (wrap64 (wrap64 (q * b) + r) != a) = false) (f3 : (r != 0) = false) (f4 : (wrap32 b == 0) = true) :
    Calls Try.prog 5 #[.int .i64 a, .int .i64 b] w fun e w' => e = .returned (.bool true) ∧ Drawn0 w w' := by
  have H1 := Aside0.mk h1; have H2 := Aside0.mk h2; have H3 := Aside0.mk h3; have H4 := Aside0.mk h4
  clear h1 h2 h3 h4
  go_enter Try.func5, Try.ntmps5
  go_wp2_with (first | (go_at_call 12; refine (regletlaw01_holds.calls 1 true _ (holds_some 0)).mono ?_; rintro e w' ⟨rfl, ⟨nd, rfl⟩⟩) | (go_at_call 15; (with_reducible refine (num_Long.calls 1 109 a b q _ H1.out).mono ?_); rintro e w' ⟨rfl, ⟨nd, rfl⟩⟩) | (go_at_call 15; (with_reducible refine (num_Long.calls 1 113 a b r _ H2.out).mono ?_); rintro e w' ⟨rfl, ⟨nd, rfl⟩⟩) | (go_at_call 14; (with_reducible refine (num_Int.calls 1 108 (wrap32 a) (wrap32 b) c _ H3.out).mono ?_); rintro e w' ⟨rfl, ⟨nd, rfl⟩⟩) | (go_at_call 14; (with_reducible refine (num_Int.calls 1 112 (wrap32 a) (wrap32 b) d _ H4.out).mono ?_); rintro e w' ⟨rfl, ⟨nd, rfl⟩⟩))
  go_ret
  exact ⟨rfl, by repeat (first | exact Drawn0.refl _ | apply Drawn0.step)⟩

set_option maxHeartbeats 8000000 in
set_option maxRecDepth 100000 in
theorem parts_S1z1 (a b q r c d : Int) (w : World) (h1 : num_Long.f 1 109 a b = some q) (h2 : num_Long.f 1 113 a b = some r) (h3 : num_Int.f 1 108 (wrap32 a) (wrap32 b) = some c) (h4 : num_Int.f 1 112 (wrap32 a) (wrap32 b) = some d)
    (f0 : (b == 0) = false) (f1 : (b == (-9223372036854775808)) = true) (f2 : (wrap64 (wrap64 (q * b) + r) != a) = false) (f3 : (r != 0) = false) (f4 : (wrap32 b == 0) = false) (f5 : (wrap32 (wrap32 (c * wrap32 b) + d) == wrap32 a) = true) :
    Calls Try.prog 5 #[.int .i64 a, .int .i64 b] w fun e w' => e = .returned (.bool true) ∧ Drawn0 w w' := by
  have H1 := Aside0.mk h1; have H2 := Aside0.mk h2; have H3 := Aside0.mk h3; have H4 := Aside0.mk h4
  clear h1 h2 h3 h4
  go_enter Try.func5, Try.ntmps5
  go_wp2_with (first | (go_at_call 12; refine (regletlaw01_holds.calls 1 true _ (holds_some 0)).mono ?_; rintro e w' ⟨rfl, ⟨nd, rfl⟩⟩) | (go_at_call 15; (with_reducible refine (num_Long.calls 1 109 a b q _ H1.out).mono ?_); rintro e w' ⟨rfl, ⟨nd, rfl⟩⟩) | (go_at_call 15; (with_reducible refine (num_Long.calls 1 113 a b r _ H2.out).mono ?_); rintro e w' ⟨rfl, ⟨nd, rfl⟩⟩) | (go_at_call 14; (with_reducible refine (num_Int.calls 1 108 (wrap32 a) (wrap32 b) c _ H3.out).mono ?_); rintro e w' ⟨rfl, ⟨nd, rfl⟩⟩) | (go_at_call 14; (with_reducible refine (num_Int.calls 1 112 (wrap32 a) (wrap32 b) d _ H4.out).mono ?_); rintro e w' ⟨rfl, ⟨nd, rfl⟩⟩))
  go_ret
  exact ⟨rfl, by repeat (first | exact Drawn0.refl _ | apply Drawn0.step)⟩

set_option maxHeartbeats 8000000 in
set_option maxRecDepth 100000 in
theorem parts_S1n0 (a b q r c d : Int) (w : World) (h1 : num_Long.f 1 109 a b = some q) (h2 : num_Long.f 1 113 a b = some r) (h3 : num_Int.f 1 108 (wrap32 a) (wrap32 b) = some c) (h4 : num_Int.f 1 112 (wrap32 a) (wrap32 b) = some d)
    (f0 : (b == 0) = false) (f1 : (b == (-9223372036854775808)) = true) (f2 : (wrap64 (wrap64 (q * b) + r) != a) = false) (f3 : (r != 0) = true) (f4 : decide (a < 0) = true) (f5 : decide (r < 0) = true) (f6 : (wrap32 b == 0) = true) :
    Calls Try.prog 5 #[.int .i64 a, .int .i64 b] w fun e w' => e = .returned (.bool true) ∧ Drawn0 w w' := by
  have H1 := Aside0.mk h1; have H2 := Aside0.mk h2; have H3 := Aside0.mk h3; have H4 := Aside0.mk h4
  clear h1 h2 h3 h4
  go_enter Try.func5, Try.ntmps5
  go_wp2_with (first | (go_at_call 12; refine (regletlaw01_holds.calls 1 true _ (holds_some 0)).mono ?_; rintro e w' ⟨rfl, ⟨nd, rfl⟩⟩) | (go_at_call 15; (with_reducible refine (num_Long.calls 1 109 a b q _ H1.out).mono ?_); rintro e w' ⟨rfl, ⟨nd, rfl⟩⟩) | (go_at_call 15; (with_reducible refine (num_Long.calls 1 113 a b r _ H2.out).mono ?_); rintro e w' ⟨rfl, ⟨nd, rfl⟩⟩) | (go_at_call 14; (with_reducible refine (num_Int.calls 1 108 (wrap32 a) (wrap32 b) c _ H3.out).mono ?_); rintro e w' ⟨rfl, ⟨nd, rfl⟩⟩) | (go_at_call 14; (with_reducible refine (num_Int.calls 1 112 (wrap32 a) (wrap32 b) d _ H4.out).mono ?_); rintro e w' ⟨rfl, ⟨nd, rfl⟩⟩))
  go_ret
  exact ⟨rfl, by repeat (first | exact Drawn0.refl _ | apply Drawn0.step)⟩

set_option maxHeartbeats 8000000 in
set_option maxRecDepth 100000 in
theorem parts_S1n1 (a b q r c d : Int) (w : World) (h1 : num_Long.f 1 109 a b = some q) (h2 : num_Long.f 1 113 a b = some r) (h3 : num_Int.f 1 108 (wrap32 a) (wrap32 b) = some c) (h4 : num_Int.f 1 112 (wrap32 a) (wrap32 b) = some d)
    (f0 : (b == 0) = false) (f1 : (b == (-9223372036854775808)) = true) (f2 : (wrap64 (wrap64 (q * b) + r) != a) = false) (f3 : (r != 0) = true) (f4 : decide (a < 0) = true) (f5 : decide (r < 0) = true) (f6 : (wrap32 b == 0) = false) (f7 : (wrap32 (wrap32 (c * wrap32 b) + d) == wrap32 a) = true) :
    Calls Try.prog 5 #[.int .i64 a, .int .i64 b] w fun e w' => e = .returned (.bool true) ∧ Drawn0 w w' := by
  have H1 := Aside0.mk h1; have H2 := Aside0.mk h2; have H3 := Aside0.mk h3; have H4 := Aside0.mk h4
  clear h1 h2 h3 h4
  go_enter Try.func5, Try.ntmps5
  go_wp2_with (first | (go_at_call 12; refine (regletlaw01_holds.calls 1 true _ (holds_some 0)).mono ?_; rintro e w' ⟨rfl, ⟨nd, rfl⟩⟩) | (go_at_call 15; (with_reducible refine (num_Long.calls 1 109 a b q _ H1.out).mono ?_); rintro e w' ⟨rfl, ⟨nd, rfl⟩⟩) | (go_at_call 15; (with_reducible refine (num_Long.calls 1 113 a b r _ H2.out).mono ?_); rintro e w' ⟨rfl, ⟨nd, rfl⟩⟩) | (go_at_call 14; (with_reducible refine (num_Int.calls 1 108 (wrap32 a) (wrap32 b) c _ H3.out).mono ?_); rintro e w' ⟨rfl, ⟨nd, rfl⟩⟩) | (go_at_call 14; (with_reducible refine (num_Int.calls 1 112 (wrap32 a) (wrap32 b) d _ H4.out).mono ?_); rintro e w' ⟨rfl, ⟨nd, rfl⟩⟩))
  go_ret
  exact ⟨rfl, by repeat (first | exact Drawn0.refl _ | apply Drawn0.step)⟩

set_option maxHeartbeats 8000000 in
set_option maxRecDepth 100000 in
theorem parts_S1p0 (a b q r c d : Int) (w : World) (h1 : num_Long.f 1 109 a b = some q) (h2 : num_Long.f 1 113 a b = some r) (h3 : num_Int.f 1 108 (wrap32 a) (wrap32 b) = some c) (h4 : num_Int.f 1 112 (wrap32 a) (wrap32 b) = some d)
    (f0 : (b == 0) = false) (f1 : (b == (-9223372036854775808)) = true) (f2 : (wrap64 (wrap64 (q * b) + r) != a) = false) (f3 : (r != 0) = true) (f4 : decide (a < 0) = false) (f5 : decide (r < 0) = false) (f6 : (wrap32 b == 0) = true) :
    Calls Try.prog 5 #[.int .i64 a, .int .i64 b] w fun e w' => e = .returned (.bool true) ∧ Drawn0 w w' := by
  have H1 := Aside0.mk h1; have H2 := Aside0.mk h2; have H3 := Aside0.mk h3; have H4 := Aside0.mk h4
  clear h1 h2 h3 h4
  go_enter Try.func5, Try.ntmps5
  go_wp2_with (first | (go_at_call 12; refine (regletlaw01_holds.calls 1 true _ (holds_some 0)).mono ?_; rintro e w' ⟨rfl, ⟨nd, rfl⟩⟩) | (go_at_call 15; (with_reducible refine (num_Long.calls 1 109 a b q _ H1.out).mono ?_); rintro e w' ⟨rfl, ⟨nd, rfl⟩⟩) | (go_at_call 15; (with_reducible refine (num_Long.calls 1 113 a b r _ H2.out).mono ?_); rintro e w' ⟨rfl, ⟨nd, rfl⟩⟩) | (go_at_call 14; (with_reducible refine (num_Int.calls 1 108 (wrap32 a) (wrap32 b) c _ H3.out).mono ?_); rintro e w' ⟨rfl, ⟨nd, rfl⟩⟩) | (go_at_call 14; (with_reducible refine (num_Int.calls 1 112 (wrap32 a) (wrap32 b) d _ H4.out).mono ?_); rintro e w' ⟨rfl, ⟨nd, rfl⟩⟩))
  go_ret
  exact ⟨rfl, by repeat (first | exact Drawn0.refl _ | apply Drawn0.step)⟩

set_option maxHeartbeats 8000000 in
set_option maxRecDepth 100000 in
theorem parts_S1p1 (a b q r c d : Int) (w : World) (h1 : num_Long.f 1 109 a b = some q) (h2 : num_Long.f 1 113 a b = some r) (h3 : num_Int.f 1 108 (wrap32 a) (wrap32 b) = some c) (h4 : num_Int.f 1 112 (wrap32 a) (wrap32 b) = some d)
    (f0 : (b == 0) = false) (f1 : (b == (-9223372036854775808)) = true) (f2 : (wrap64 (wrap64 (q * b) + r) != a) = false) (f3 : (r != 0) = true) (f4 : decide (a < 0) = false) (f5 : decide (r < 0) = false) (f6 : (wrap32 b == 0) = false) (f7 : (wrap32 (wrap32 (c * wrap32 b) + d) == wrap32 a) = true) :
    Calls Try.prog 5 #[.int .i64 a, .int .i64 b] w fun e w' => e = .returned (.bool true) ∧ Drawn0 w w' := by
  have H1 := Aside0.mk h1; have H2 := Aside0.mk h2; have H3 := Aside0.mk h3; have H4 := Aside0.mk h4
  clear h1 h2 h3 h4
  go_enter Try.func5, Try.ntmps5
  go_wp2_with (first | (go_at_call 12; refine (regletlaw01_holds.calls 1 true _ (holds_some 0)).mono ?_; rintro e w' ⟨rfl, ⟨nd, rfl⟩⟩) | (go_at_call 15; (with_reducible refine (num_Long.calls 1 109 a b q _ H1.out).mono ?_); rintro e w' ⟨rfl, ⟨nd, rfl⟩⟩) | (go_at_call 15; (with_reducible refine (num_Long.calls 1 113 a b r _ H2.out).mono ?_); rintro e w' ⟨rfl, ⟨nd, rfl⟩⟩) | (go_at_call 14; (with_reducible refine (num_Int.calls 1 108 (wrap32 a) (wrap32 b) c _ H3.out).mono ?_); rintro e w' ⟨rfl, ⟨nd, rfl⟩⟩) | (go_at_call 14; (with_reducible refine (num_Int.calls 1 112 (wrap32 a) (wrap32 b) d _ H4.out).mono ?_); rintro e w' ⟨rfl, ⟨nd, rfl⟩⟩))
  go_ret
  exact ⟨rfl, by repeat (first | exact Drawn0.refl _ | apply Drawn0.step)⟩

set_option maxHeartbeats 8000000 in
set_option maxRecDepth 100000 in
theorem parts_S2n0 (a b q r c d : Int) (w : World) (h1 : num_Long.f 1 109 a b = some q) (h2 : num_Long.f 1 113 a b = some r) (h3 : num_Int.f 1 108 (wrap32 a) (wrap32 b) = some c) (h4 : num_Int.f 1 112 (wrap32 a) (wrap32 b) = some d)
    (f0 : (b == 0) = false) (f1 : (b == (-9223372036854775808)) = false) (f2 : decide (r < 0) = true) (f3 : decide (0 ≤ r) = false) (f4 : decide (b < 0) = true) (f5 : decide (0 < b) = false) (f6 : decide (b < r) = true) (f7 : (wrap64 (wrap64 (q * b) + r) != a) = false) (f8 : (r != 0) = true) (f9 : decide (a < 0) = true) (f10 : (wrap32 b == 0) = true) :
    Calls Try.prog 5 #[.int .i64 a, .int .i64 b] w fun e w' => e = .returned (.bool true) ∧ Drawn0 w w' := by
  have H1 := Aside0.mk h1; have H2 := Aside0.mk h2; have H3 := Aside0.mk h3; have H4 := Aside0.mk h4
  clear h1 h2 h3 h4
  go_enter Try.func5, Try.ntmps5
  go_wp2_with (first | (go_at_call 12; refine (regletlaw01_holds.calls 1 true _ (holds_some 0)).mono ?_; rintro e w' ⟨rfl, ⟨nd, rfl⟩⟩) | (go_at_call 15; (with_reducible refine (num_Long.calls 1 109 a b q _ H1.out).mono ?_); rintro e w' ⟨rfl, ⟨nd, rfl⟩⟩) | (go_at_call 15; (with_reducible refine (num_Long.calls 1 113 a b r _ H2.out).mono ?_); rintro e w' ⟨rfl, ⟨nd, rfl⟩⟩) | (go_at_call 14; (with_reducible refine (num_Int.calls 1 108 (wrap32 a) (wrap32 b) c _ H3.out).mono ?_); rintro e w' ⟨rfl, ⟨nd, rfl⟩⟩) | (go_at_call 14; (with_reducible refine (num_Int.calls 1 112 (wrap32 a) (wrap32 b) d _ H4.out).mono ?_); rintro e w' ⟨rfl, ⟨nd, rfl⟩⟩))
  go_ret
  exact ⟨rfl, by repeat (first | exact Drawn0.refl _ | apply Drawn0.step)⟩

set_option maxHeartbeats 8000000 in
set_option maxRecDepth 100000 in
theorem parts_S2n1 (a b q r c d : Int) (w : World) (h1 : num_Long.f 1 109 a b = some q) (h2 : num_Long.f 1 113 a b = some r) (h3 : num_Int.f 1 108 (wrap32 a) (wrap32 b) = some c) (h4 : num_Int.f 1 112 (wrap32 a) (wrap32 b) = some d)
    (f0 : (b == 0) = false) (f1 : (b == (-9223372036854775808)) = false) (f2 : decide (r < 0) = true) (f3 : decide (0 ≤ r) = false) (f4 : decide (b < 0) = true) (f5 : decide (0 < b) = false) (f6 : decide (b < r) = true) (f7 : (wrap64 (wrap64 (q * b) + r) != a) = false) (f8 : (r != 0) = true) (f9 : decide (a < 0) = true) (f10 : (wrap32 b == 0) = false) (f11 : (wrap32 (wrap32 (c * wrap32 b) + d) == wrap32 a) = true) :
    Calls Try.prog 5 #[.int .i64 a, .int .i64 b] w fun e w' => e = .returned (.bool true) ∧ Drawn0 w w' := by
  have H1 := Aside0.mk h1; have H2 := Aside0.mk h2; have H3 := Aside0.mk h3; have H4 := Aside0.mk h4
  clear h1 h2 h3 h4
  go_enter Try.func5, Try.ntmps5
  go_wp2_with (first | (go_at_call 12; refine (regletlaw01_holds.calls 1 true _ (holds_some 0)).mono ?_; rintro e w' ⟨rfl, ⟨nd, rfl⟩⟩) | (go_at_call 15; (with_reducible refine (num_Long.calls 1 109 a b q _ H1.out).mono ?_); rintro e w' ⟨rfl, ⟨nd, rfl⟩⟩) | (go_at_call 15; (with_reducible refine (num_Long.calls 1 113 a b r _ H2.out).mono ?_); rintro e w' ⟨rfl, ⟨nd, rfl⟩⟩) | (go_at_call 14; (with_reducible refine (num_Int.calls 1 108 (wrap32 a) (wrap32 b) c _ H3.out).mono ?_); rintro e w' ⟨rfl, ⟨nd, rfl⟩⟩) | (go_at_call 14; (with_reducible refine (num_Int.calls 1 112 (wrap32 a) (wrap32 b) d _ H4.out).mono ?_); rintro e w' ⟨rfl, ⟨nd, rfl⟩⟩))
  go_ret
  exact ⟨rfl, by repeat (first | exact Drawn0.refl _ | apply Drawn0.step)⟩

set_option maxHeartbeats 8000000 in
set_option maxRecDepth 100000 in
theorem parts_S3n0 (a b q r c d : Int) (w : World) (h1 : num_Long.f 1 109 a b = some q) (h2 : num_Long.f 1 113 a b = some r) (h3 : num_Int.f 1 108 (wrap32 a) (wrap32 b) = some c) (h4 : num_Int.f 1 112 (wrap32 a) (wrap32 b) = some d)
    (f0 : (b == 0) = false) (f1 : (b == (-9223372036854775808)) = false) (f2 : decide (r < 0) = true) (f3 : decide (0 ≤ r) = false) (f4 : decide (b < 0) = false) (f5 : decide (0 < b) = true) (f6 : decide (wrap64 (-r) < b) = true) (f7 : (wrap64 (wrap64 (q * b) + r) != a) = false) (f8 : (r != 0) = true) (f9 : decide (a < 0) = true) (f10 : (wrap32 b == 0) = true) :
    Calls Try.prog 5 #[.int .i64 a, .int .i64 b] w fun e w' => e = .returned (.bool true) ∧ Drawn0 w w' := by
  have H1 := Aside0.mk h1; have H2 := Aside0.mk h2; have H3 := Aside0.mk h3; have H4 := Aside0.mk h4
  clear h1 h2 h3 h4
  go_enter Try.func5, Try.ntmps5
  go_wp2_with (first | (go_at_call 12; refine (regletlaw01_holds.calls 1 true _ (holds_some 0)).mono ?_; rintro e w' ⟨rfl, ⟨nd, rfl⟩⟩) | (go_at_call 15; (with_reducible refine (num_Long.calls 1 109 a b q _ H1.out).mono ?_); rintro e w' ⟨rfl, ⟨nd, rfl⟩⟩) | (go_at_call 15; (with_reducible refine (num_Long.calls 1 113 a b r _ H2.out).mono ?_); rintro e w' ⟨rfl, ⟨nd, rfl⟩⟩) | (go_at_call 14; (with_reducible refine (num_Int.calls 1 108 (wrap32 a) (wrap32 b) c _ H3.out).mono ?_); rintro e w' ⟨rfl, ⟨nd, rfl⟩⟩) | (go_at_call 14; (with_reducible refine (num_Int.calls 1 112 (wrap32 a) (wrap32 b) d _ H4.out).mono ?_); rintro e w' ⟨rfl, ⟨nd, rfl⟩⟩))
  go_ret
  exact ⟨rfl, by repeat (first | exact Drawn0.refl _ | apply Drawn0.step)⟩

set_option maxHeartbeats 8000000 in
set_option maxRecDepth 100000 in
theorem parts_S3n1 (a b q r c d : Int) (w : World) (h1 : num_Long.f 1 109 a b = some q) (h2 : num_Long.f 1 113 a b = some r) (h3 : num_Int.f 1 108 (wrap32 a) (wrap32 b) = some c) (h4 : num_Int.f 1 112 (wrap32 a) (wrap32 b) = some d)
    (f0 : (b == 0) = false) (f1 : (b == (-9223372036854775808)) = false) (f2 : decide (r < 0) = true) (f3 : decide (0 ≤ r) = false) (f4 : decide (b < 0) = false) (f5 : decide (0 < b) = true) (f6 : decide (wrap64 (-r) < b) = true) (f7 : (wrap64 (wrap64 (q * b) + r) != a) = false) (f8 : (r != 0) = true) (f9 : decide (a < 0) = true) (f10 : (wrap32 b == 0) = false) (f11 : (wrap32 (wrap32 (c * wrap32 b) + d) == wrap32 a) = true) :
    Calls Try.prog 5 #[.int .i64 a, .int .i64 b] w fun e w' => e = .returned (.bool true) ∧ Drawn0 w w' := by
  have H1 := Aside0.mk h1; have H2 := Aside0.mk h2; have H3 := Aside0.mk h3; have H4 := Aside0.mk h4
  clear h1 h2 h3 h4
  go_enter Try.func5, Try.ntmps5
  go_wp2_with (first | (go_at_call 12; refine (regletlaw01_holds.calls 1 true _ (holds_some 0)).mono ?_; rintro e w' ⟨rfl, ⟨nd, rfl⟩⟩) | (go_at_call 15; (with_reducible refine (num_Long.calls 1 109 a b q _ H1.out).mono ?_); rintro e w' ⟨rfl, ⟨nd, rfl⟩⟩) | (go_at_call 15; (with_reducible refine (num_Long.calls 1 113 a b r _ H2.out).mono ?_); rintro e w' ⟨rfl, ⟨nd, rfl⟩⟩) | (go_at_call 14; (with_reducible refine (num_Int.calls 1 108 (wrap32 a) (wrap32 b) c _ H3.out).mono ?_); rintro e w' ⟨rfl, ⟨nd, rfl⟩⟩) | (go_at_call 14; (with_reducible refine (num_Int.calls 1 112 (wrap32 a) (wrap32 b) d _ H4.out).mono ?_); rintro e w' ⟨rfl, ⟨nd, rfl⟩⟩))
  go_ret
  exact ⟨rfl, by repeat (first | exact Drawn0.refl _ | apply Drawn0.step)⟩

set_option maxHeartbeats 8000000 in
set_option maxRecDepth 100000 in
theorem parts_S4z0 (a b q r c d : Int) (w : World) (h1 : num_Long.f 1 109 a b = some q) (h2 : num_Long.f 1 113 a b = some r) (h3 : num_Int.f 1 108 (wrap32 a) (wrap32 b) = some c) (h4 : num_Int.f 1 112 (wrap32 a) (wrap32 b) = some d)
    (f0 : (b == 0) = false) (f1 : (b == (-9223372036854775808)) = false) (f2 : decide (r < 0) = false) (f3 : decide (0 ≤ r) = true) (f4 : decide (b < 0) = false) (f5 : decide (0 < b) = true) (f6 : decide (r < b) = true) (f7 : (wrap64 (wrap64 (q * b) + r) != a) = false) (f8 : (r != 0) = false) (f9 : (wrap32 b == 0) = true) :
    Calls Try.prog 5 #[.int .i64 a, .int .i64 b] w fun e w' => e = .returned (.bool true) ∧ Drawn0 w w' := by
  have H1 := Aside0.mk h1; have H2 := Aside0.mk h2; have H3 := Aside0.mk h3; have H4 := Aside0.mk h4
  clear h1 h2 h3 h4
  go_enter Try.func5, Try.ntmps5
  go_wp2_with (first | (go_at_call 12; refine (regletlaw01_holds.calls 1 true _ (holds_some 0)).mono ?_; rintro e w' ⟨rfl, ⟨nd, rfl⟩⟩) | (go_at_call 15; (with_reducible refine (num_Long.calls 1 109 a b q _ H1.out).mono ?_); rintro e w' ⟨rfl, ⟨nd, rfl⟩⟩) | (go_at_call 15; (with_reducible refine (num_Long.calls 1 113 a b r _ H2.out).mono ?_); rintro e w' ⟨rfl, ⟨nd, rfl⟩⟩) | (go_at_call 14; (with_reducible refine (num_Int.calls 1 108 (wrap32 a) (wrap32 b) c _ H3.out).mono ?_); rintro e w' ⟨rfl, ⟨nd, rfl⟩⟩) | (go_at_call 14; (with_reducible refine (num_Int.calls 1 112 (wrap32 a) (wrap32 b) d _ H4.out).mono ?_); rintro e w' ⟨rfl, ⟨nd, rfl⟩⟩))
  go_ret
  exact ⟨rfl, by repeat (first | exact Drawn0.refl _ | apply Drawn0.step)⟩

set_option maxHeartbeats 8000000 in
set_option maxRecDepth 100000 in
theorem parts_S4z1 (a b q r c d : Int) (w : World) (h1 : num_Long.f 1 109 a b = some q) (h2 : num_Long.f 1 113 a b = some r) (h3 : num_Int.f 1 108 (wrap32 a) (wrap32 b) = some c) (h4 : num_Int.f 1 112 (wrap32 a) (wrap32 b) = some d)
    (f0 : (b == 0) = false) (f1 : (b == (-9223372036854775808)) = false) (f2 : decide (r < 0) = false) (f3 : decide (0 ≤ r) = true) (f4 : decide (b < 0) = false) (f5 : decide (0 < b) = true) (f6 : decide (r < b) = true) (f7 : (wrap64 (wrap64 (q * b) + r) != a) = false) (f8 : (r != 0) = false) (f9 : (wrap32 b == 0) = false) (f10 : (wrap32 (wrap32 (c * wrap32 b) + d) == wrap32 a) = true) :
    Calls Try.prog 5 #[.int .i64 a, .int .i64 b] w fun e w' => e = .returned (.bool true) ∧ Drawn0 w w' := by
  have H1 := Aside0.mk h1; have H2 := Aside0.mk h2; have H3 := Aside0.mk h3; have H4 := Aside0.mk h4
  clear h1 h2 h3 h4
  go_enter Try.func5, Try.ntmps5
  go_wp2_with (first | (go_at_call 12; refine (regletlaw01_holds.calls 1 true _ (holds_some 0)).mono ?_; rintro e w' ⟨rfl, ⟨nd, rfl⟩⟩) | (go_at_call 15; (with_reducible refine (num_Long.calls 1 109 a b q _ H1.out).mono ?_); rintro e w' ⟨rfl, ⟨nd, rfl⟩⟩) | (go_at_call 15; (with_reducible refine (num_Long.calls 1 113 a b r _ H2.out).mono ?_); rintro e w' ⟨rfl, ⟨nd, rfl⟩⟩) | (go_at_call 14; (with_reducible refine (num_Int.calls 1 108 (wrap32 a) (wrap32 b) c _ H3.out).mono ?_); rintro e w' ⟨rfl, ⟨nd, rfl⟩⟩) | (go_at_call 14; (with_reducible refine (num_Int.calls 1 112 (wrap32 a) (wrap32 b) d _ H4.out).mono ?_); rintro e w' ⟨rfl, ⟨nd, rfl⟩⟩))
  go_ret
  exact ⟨rfl, by repeat (first | exact Drawn0.refl _ | apply Drawn0.step)⟩

set_option maxHeartbeats 8000000 in
set_option maxRecDepth 100000 in
theorem parts_S4p0 (a b q r c d : Int) (w : World) (h1 : num_Long.f 1 109 a b = some q) (h2 : num_Long.f 1 113 a b = some r) (h3 : num_Int.f 1 108 (wrap32 a) (wrap32 b) = some c) (h4 : num_Int.f 1 112 (wrap32 a) (wrap32 b) = some d)
    (f0 : (b == 0) = false) (f1 : (b == (-9223372036854775808)) = false) (f2 : decide (r < 0) = false) (f3 : decide (0 ≤ r) = true) (f4 : decide (b < 0) = false) (f5 : decide (0 < b) = true) (f6 : decide (r < b) = true) (f7 : (wrap64 (wrap64 (q * b) + r) != a) = false) (f8 : (r != 0) = true) (f9 : decide (a < 0) = false) (f10 : (wrap32 b == 0) = true) :
    Calls Try.prog 5 #[.int .i64 a, .int .i64 b] w fun e w' => e = .returned (.bool true) ∧ Drawn0 w w' := by
  have H1 := Aside0.mk h1; have H2 := Aside0.mk h2; have H3 := Aside0.mk h3; have H4 := Aside0.mk h4
  clear h1 h2 h3 h4
  go_enter Try.func5, Try.ntmps5
  go_wp2_with (first | (go_at_call 12; refine (regletlaw01_holds.calls 1 true _ (holds_some 0)).mono ?_; rintro e w' ⟨rfl, ⟨nd, rfl⟩⟩) | (go_at_call 15; (with_reducible refine (num_Long.calls 1 109 a b q _ H1.out).mono ?_); rintro e w' ⟨rfl, ⟨nd, rfl⟩⟩) | (go_at_call 15; (with_reducible refine (num_Long.calls 1 113 a b r _ H2.out).mono ?_); rintro e w' ⟨rfl, ⟨nd, rfl⟩⟩) | (go_at_call 14; (with_reducible refine (num_Int.calls 1 108 (wrap32 a) (wrap32 b) c _ H3.out).mono ?_); rintro e w' ⟨rfl, ⟨nd, rfl⟩⟩) | (go_at_call 14; (with_reducible refine (num_Int.calls 1 112 (wrap32 a) (wrap32 b) d _ H4.out).mono ?_); rintro e w' ⟨rfl, ⟨nd, rfl⟩⟩))
  go_ret
  exact ⟨rfl, by repeat (first | exact Drawn0.refl _ | apply Drawn0.step)⟩

set_option maxHeartbeats 8000000 in
set_option maxRecDepth 100000 in
theorem parts_S4p1 (a b q r c d : Int) (w : World) (h1 : num_Long.f 1 109 a b = some q) (h2 : num_Long.f 1 113 a b = some r) (h3 : num_Int.f 1 108 (wrap32 a) (wrap32 b) = some c) (h4 : num_Int.f 1 112 (wrap32 a) (wrap32 b) = some d)
    (f0 : (b == 0) = false) (f1 : (b == (-9223372036854775808)) = false) (f2 : decide (r < 0) = false) (f3 : decide (0 ≤ r) = true) (f4 : decide (b < 0) = false) (f5 : decide (0 < b) = true) (f6 : decide (r < b) = true) (f7 : (wrap64 (wrap64 (q * b) + r) != a) = false) (f8 : (r != 0) = true) (f9 : decide (a < 0) = false) (f10 : (wrap32 b == 0) = false) (f11 : (wrap32 (wrap32 (c * wrap32 b) + d) == wrap32 a) = true) :
    Calls Try.prog 5 #[.int .i64 a, .int .i64 b] w fun e w' => e = .returned (.bool true) ∧ Drawn0 w w' := by
  have H1 := Aside0.mk h1; have H2 := Aside0.mk h2; have H3 := Aside0.mk h3; have H4 := Aside0.mk h4
  clear h1 h2 h3 h4
  go_enter Try.func5, Try.ntmps5
  go_wp2_with (first | (go_at_call 12; refine (regletlaw01_holds.calls 1 true _ (holds_some 0)).mono ?_; rintro e w' ⟨rfl, ⟨nd, rfl⟩⟩) | (go_at_call 15; (with_reducible refine (num_Long.calls 1 109 a b q _ H1.out).mono ?_); rintro e w' ⟨rfl, ⟨nd, rfl⟩⟩) | (go_at_call 15; (with_reducible refine (num_Long.calls 1 113 a b r _ H2.out).mono ?_); rintro e w' ⟨rfl, ⟨nd, rfl⟩⟩) | (go_at_call 14; (with_reducible refine (num_Int.calls 1 108 (wrap32 a) (wrap32 b) c _ H3.out).mono ?_); rintro e w' ⟨rfl, ⟨nd, rfl⟩⟩) | (go_at_call 14; (with_reducible refine (num_Int.calls 1 112 (wrap32 a) (wrap32 b) d _ H4.out).mono ?_); rintro e w' ⟨rfl, ⟨nd, rfl⟩⟩))
  go_ret
  exact ⟨rfl, by repeat (first | exact Drawn0.refl _ | apply Drawn0.step)⟩

set_option maxHeartbeats 8000000 in
set_option maxRecDepth 100000 in
theorem parts_S5z0 (a b q r c d : Int) (w : World) (h1 : num_Long.f 1 109 a b = some q) (h2 : num_Long.f 1 113 a b = some r) (h3 : num_Int.f 1 108 (wrap32 a) (wrap32 b) = some c) (h4 : num_Int.f 1 112 (wrap32 a) (wrap32 b) = some d)
    (f0 : (b == 0) = false) (f1 : (b == (-9223372036854775808)) = false) (f2 : decide (r < 0) = false) (f3 : decide (0 ≤ r) = true) (f4 : decide (b < 0) = true) (f5 : decide (0 < b) = false) (f6 : decide (b < wrap64 (-r)) = true) (f7 : (wrap64 (wrap64 (q * b) + r) != a) = false) (f8 : (r != 0) = false) (f9 : (wrap32 b == 0) = true) :
    Calls Try.prog 5 #[.int .i64 a, .int .i64 b] w fun e w' => e = .returned (.bool true) ∧ Drawn0 w w' := by
  have H1 := Aside0.mk h1; have H2 := Aside0.mk h2; have H3 := Aside0.mk h3; have H4 := Aside0.mk h4
  clear h1 h2 h3 h4
  go_enter Try.func5, Try.ntmps5
  go_wp2_with (first | (go_at_call 12; refine (regletlaw01_holds.calls 1 true _ (holds_some 0)).mono ?_; rintro e w' ⟨rfl, ⟨nd, rfl⟩⟩) | (go_at_call 15; (with_reducible refine (num_Long.calls 1 109 a b q _ H1.out).mono ?_); rintro e w' ⟨rfl, ⟨nd, rfl⟩⟩) | (go_at_call 15; (with_reducible refine (num_Long.calls 1 113 a b r _ H2.out).mono ?_); rintro e w' ⟨rfl, ⟨nd, rfl⟩⟩) | (go_at_call 14; (with_reducible refine (num_Int.calls 1 108 (wrap32 a) (wrap32 b) c _ H3.out).mono ?_); rintro e w' ⟨rfl, ⟨nd, rfl⟩⟩) | (go_at_call 14; (with_reducible refine (num_Int.calls 1 112 (wrap32 a) (wrap32 b) d _ H4.out).mono ?_); rintro e w' ⟨rfl, ⟨nd, rfl⟩⟩))
  go_ret
  exact ⟨rfl, by repeat (first | exact Drawn0.refl _ | apply Drawn0.step)⟩

set_option maxHeartbeats 8000000 in
set_option maxRecDepth 100000 in
theorem parts_S5z1 (a b q r c d : Int) (w : World) (h1 : num_Long.f 1 109 a b = some q) (h2 : num_Long.f 1 113 a b = some r) (h3 : num_Int.f 1 108 (wrap32 a) (wrap32 b) = some c) (h4 : num_Int.f 1 112 (wrap32 a) (wrap32 b) = some d)
    (f0 : (b == 0) = false) (f1 : (b == (-9223372036854775808)) = false) (f2 : decide (r < 0) = false) (f3 : decide (0 ≤ r) = true) (f4 : decide (b < 0) = true) (f5 : decide (0 < b) = false) (f6 : decide (b < wrap64 (-r)) = true) (f7 : (wrap64 (wrap64 (q * b) + r) != a) = false) (f8 : (r != 0) = false) (f9 : (wrap32 b == 0) = false) (f10 : (wrap32 (wrap32 (c * wrap32 b) + d) == wrap32 a) = true) :
    Calls Try.prog 5 #[.int .i64 a, .int .i64 b] w fun e w' => e = .returned (.bool true) ∧ Drawn0 w w' := by
  have H1 := Aside0.mk h1; have H2 := Aside0.mk h2; have H3 := Aside0.mk h3; have H4 := Aside0.mk h4
  clear h1 h2 h3 h4
  go_enter Try.func5, Try.ntmps5
  go_wp2_with (first | (go_at_call 12; refine (regletlaw01_holds.calls 1 true _ (holds_some 0)).mono ?_; rintro e w' ⟨rfl, ⟨nd, rfl⟩⟩) | (go_at_call 15; (with_reducible refine (num_Long.calls 1 109 a b q _ H1.out).mono ?_); rintro e w' ⟨rfl, ⟨nd, rfl⟩⟩) | (go_at_call 15; (with_reducible refine (num_Long.calls 1 113 a b r _ H2.out).mono ?_); rintro e w' ⟨rfl, ⟨nd, rfl⟩⟩) | (go_at_call 14; (with_reducible refine (num_Int.calls 1 108 (wrap32 a) (wrap32 b) c _ H3.out).mono ?_); rintro e w' ⟨rfl, ⟨nd, rfl⟩⟩) | (go_at_call 14; (with_reducible refine (num_Int.calls 1 112 (wrap32 a) (wrap32 b) d _ H4.out).mono ?_); rintro e w' ⟨rfl, ⟨nd, rfl⟩⟩))
  go_ret
  exact ⟨rfl, by repeat (first | exact Drawn0.refl _ | apply Drawn0.step)⟩

set_option maxHeartbeats 8000000 in
set_option maxRecDepth 100000 in
theorem parts_S5p0 (a b q r c d : Int) (w : World) (h1 : num_Long.f 1 109 a b = some q) (h2 : num_Long.f 1 113 a b = some r) (h3 : num_Int.f 1 108 (wrap32 a) (wrap32 b) = some c) (h4 : num_Int.f 1 112 (wrap32 a) (wrap32 b) = some d)
    (f0 : (b == 0) = false) (f1 : (b == (-9223372036854775808)) = false) (f2 : decide (r < 0) = false) (f3 : decide (0 ≤ r) = true) (f4 : decide (b < 0) = true) (f5 : decide (0 < b) = false) (f6 : decide (b < wrap64 (-r)) = true) (f7 : (wrap64 (wrap64 (q * b) + r) != a) = false) (f8 : (r != 0) = true) (f9 : decide (a < 0) = false) (f10 : (wrap32 b == 0) = true) :
    Calls Try.prog 5 #[.int .i64 a, .int .i64 b] w fun e w' => e = .returned (.bool true) ∧ Drawn0 w w' := by
  have H1 := Aside0.mk h1; have H2 := Aside0.mk h2; have H3 := Aside0.mk h3; have H4 := Aside0.mk h4
  clear h1 h2 h3 h4
  go_enter Try.func5, Try.ntmps5
  go_wp2_with (first | (go_at_call 12; refine (regletlaw01_holds.calls 1 true _ (holds_some 0)).mono ?_; rintro e w' ⟨rfl, ⟨nd, rfl⟩⟩) | (go_at_call 15; (with_reducible refine (num_Long.calls 1 109 a b q _ H1.out).mono ?_); rintro e w' ⟨rfl, ⟨nd, rfl⟩⟩) | (go_at_call 15; (with_reducible refine (num_Long.calls 1 113 a b r _ H2.out).mono ?_); rintro e w' ⟨rfl, ⟨nd, rfl⟩⟩) | (go_at_call 14; (with_reducible refine (num_Int.calls 1 108 (wrap32 a) (wrap32 b) c _ H3.out).mono ?_); rintro e w' ⟨rfl, ⟨nd, rfl⟩⟩) | (go_at_call 14; (with_reducible refine (num_Int.calls 1 112 (wrap32 a) (wrap32 b) d _ H4.out).mono ?_); rintro e w' ⟨rfl, ⟨nd, rfl⟩⟩))
  go_ret
  exact ⟨rfl, by repeat (first | exact Drawn0.refl _ | apply Drawn0.step)⟩

set_option maxHeartbeats 8000000 in
set_option maxRecDepth 100000 in
theorem parts_S5p1 (a b q r c d : Int) (w : World) (h1 : num_Long.f 1 109 a b = some q) (h2 : num_Long.f 1 113 a b = some r) (h3 : num_Int.f 1 108 (wrap32 a) (wrap32 b) = some c) (h4 : num_Int.f 1 112 (wrap32 a) (wrap32 b) = some d)
    (f0 : (b == 0) = false) (f1 : (b == (-9223372036854775808)) = false) (f2 : decide (r < 0) = false) (f3 : decide (0 ≤ r) = true) (f4 : decide (b < 0) = true) (f5 : decide (0 < b) = false) (f6 : decide (b < wrap64 (-r)) = true) (f7 : (wrap64 (wrap64 (q * b) + r) != a) = false) (f8 : (r != 0) = true) (f9 : decide (a < 0) = false) (f10 : (wrap32 b == 0) = false) (f11 : (wrap32 (wrap32 (c * wrap32 b) + d) == wrap32 a) = true) :
    Calls Try.prog 5 #[.int .i64 a, .int .i64 b] w fun e w' => e = .returned (.bool true) ∧ Drawn0 w w' := by
  have H1 := Aside0.mk h1; have H2 := Aside0.mk h2; have H3 := Aside0.mk h3; have H4 := Aside0.mk h4
  clear h1 h2 h3 h4
  go_enter Try.func5, Try.ntmps5
  go_wp2_with (first | (go_at_call 12; refine (regletlaw01_holds.calls 1 true _ (holds_some 0)).mono ?_; rintro e w' ⟨rfl, ⟨nd, rfl⟩⟩) | (go_at_call 15; (with_reducible refine (num_Long.calls 1 109 a b q _ H1.out).mono ?_); rintro e w' ⟨rfl, ⟨nd, rfl⟩⟩) | (go_at_call 15; (with_reducible refine (num_Long.calls 1 113 a b r _ H2.out).mono ?_); rintro e w' ⟨rfl, ⟨nd, rfl⟩⟩) | (go_at_call 14; (with_reducible refine (num_Int.calls 1 108 (wrap32 a) (wrap32 b) c _ H3.out).mono ?_); rintro e w' ⟨rfl, ⟨nd, rfl⟩⟩) | (go_at_call 14; (with_reducible refine (num_Int.calls 1 112 (wrap32 a) (wrap32 b) d _ H4.out).mono ?_); rintro e w' ⟨rfl, ⟨nd, rfl⟩⟩))
  go_ret
  exact ⟨rfl, by repeat (first | exact Drawn0.refl _ | apply Drawn0.step)⟩

end Go.Proofs.Ytmgeihpankhkcaa.PAll
