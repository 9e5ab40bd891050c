-- Printed by this session's own program wip/tools/pp.py (the kit's printer with hooks of the session's); not a text of print.sh.
import Derived.Test.YtbbogkhidaekoaaPAllx0
import Derived.Test.YtbbogkhidaekoaaPAllx1
import Derived.Test.YtbbogkhidaekoaaPAllx2
import Derived.Test.YtbbogkhidaekoaaPAllx3
import Derived.Test.YtbbogkhidaekoaaPAllx4
namespace Go.Proofs.Ytbbogkhidaekoaa.PAll
open Go.RowKit Go.Proofs.YtbbogkhidaekoaaW.PrintWords Go.Proofs.YtbbogkhidaekoaaW.PrintLast Go.Proofs.YtbbogkhidaekoaaW.PrintMore
attribute [local go_sem] max2_int min2_int max_two min_two max_three min_three max_four min_four   -- for this text's walks alone
set_option linter.unusedVariables false
set_option linter.unusedSimpArgs false

/-! ### regletlaw02_DescParts: function 3 -/
def regletlaw02_DescParts.f (k : Nat) (a0 : ByteArray) : Option (Bool) := (regletlaw02_holds.f k).bind fun t121 => (if t121 = true then ((desc_Kind.f a0).bind fun t122 => ((regletref02_Kind.f a0).bind fun t123 => (if t122 = t123 then ((desc_Of.f a0).bind fun t124 => ((regletref02_Of.f a0).bind fun t125 => (if t124.toList = t125.toList then ((desc_Class.f a0).bind fun t126 => ((regletref02_Class.f a0).bind fun t127 => (if t126.toList = t127.toList then ((desc_Element.f a0).bind fun t128 => ((regletref02_Element.f a0).bind fun t129 => (some (t128.toList == t129.toList)))) else (some false)))) else (some false)))) else (some false)))) else (some false))
theorem regletlaw02_DescParts.mono : ∀ a0 k, LeO (regletlaw02_DescParts.f k a0) (regletlaw02_DescParts.f (k + 1) a0) := by
 intro a0 k
 unfold regletlaw02_DescParts.f
 repeat' first
   | (with_reducible exact regletlaw02_holds.mono _)
   | (with_reducible exact LeO.refl _)
   | (with_reducible exact LeO.none _)
   | (with_reducible refine LeO.ite ?_ ?_)
   | (with_reducible refine LeO.bind ?_ (fun _ => ?_))
   | exact regletlaw02_holds.mono _
   | exact LeO.none _
   | refine LeO.ite ?_ ?_
   | refine LeO.bind ?_ (fun _ => ?_)
set_option maxHeartbeats 8000000 in
set_option maxRecDepth 100000 in
theorem regletlaw02_DescParts.calls (k : Nat) (a0 : ByteArray) (r : Bool) (w : World) (h : regletlaw02_DescParts.f k a0 = some r) :
  Calls Try.prog 3 #[.string a0] w fun e w' => e = .returned (.bool r) ∧ Below w.heap.size w w' := by
 have HB := Aside0.mk (Below.refl w.heap.size w)
 have H : ((regletlaw02_holds.f k).bind fun t121 => (if t121 = true then ((desc_Kind.f a0).bind fun t122 => ((regletref02_Kind.f a0).bind fun t123 => (if t122 = t123 then ((desc_Of.f a0).bind fun t124 => ((regletref02_Of.f a0).bind fun t125 => (if t124.toList = t125.toList then ((desc_Class.f a0).bind fun t126 => ((regletref02_Class.f a0).bind fun t127 => (if t126.toList = t127.toList then ((desc_Element.f a0).bind fun t128 => ((regletref02_Element.f a0).bind fun t129 => (some (t128.toList == t129.toList)))) else (some false)))) else (some false)))) else (some false)))) else (some false))) = some r := h
 clear h
 replace H := Option.bind_eq_some_iff.mp H
 obtain ⟨t121, A20, H⟩ := H
 replace H : (if t121 = true then ((desc_Kind.f a0).bind fun t122 => ((regletref02_Kind.f a0).bind fun t123 => (if t122 = t123 then ((desc_Of.f a0).bind fun t124 => ((regletref02_Of.f a0).bind fun t125 => (if t124.toList = t125.toList then ((desc_Class.f a0).bind fun t126 => ((regletref02_Class.f a0).bind fun t127 => (if t126.toList = t127.toList then ((desc_Element.f a0).bind fun t128 => ((regletref02_Element.f a0).bind fun t129 => (some (t128.toList == t129.toList)))) else (some false)))) else (some false)))) else (some false)))) else (some false)) = some r := H
 have A2 := Aside0.mk A20
 clear A20
 by_cases c3 : t121 = true
 ·subst c3
  have H1 : ((desc_Kind.f a0).bind fun t122 => ((regletref02_Kind.f a0).bind fun t123 => (if t122 = t123 then ((desc_Of.f a0).bind fun t124 => ((regletref02_Of.f a0).bind fun t125 => (if t124.toList = t125.toList then ((desc_Class.f a0).bind fun t126 => ((regletref02_Class.f a0).bind fun t127 => (if t126.toList = t127.toList then ((desc_Element.f a0).bind fun t128 => ((regletref02_Element.f a0).bind fun t129 => (some (t128.toList == t129.toList)))) else (some false)))) else (some false)))) else (some false)))) = some r := by rw [if_pos rfl] at H; exact H
  clear H
  have H := H1
  clear H1
  replace H := Option.bind_eq_some_iff.mp H
  obtain ⟨t122, A40, H⟩ := H
  replace H : ((regletref02_Kind.f a0).bind fun t123 => (if t122 = t123 then ((desc_Of.f a0).bind fun t124 => ((regletref02_Of.f a0).bind fun t125 => (if t124.toList = t125.toList then ((desc_Class.f a0).bind fun t126 => ((regletref02_Class.f a0).bind fun t127 => (if t126.toList = t127.toList then ((desc_Element.f a0).bind fun t128 => ((regletref02_Element.f a0).bind fun t129 => (some (t128.toList == t129.toList)))) else (some false)))) else (some false)))) else (some false))) = some r := H
  have A4 := Aside0.mk A40
  clear A40
  replace H := Option.bind_eq_some_iff.mp H
  obtain ⟨t123, A50, H⟩ := H
  replace H : (if t122 = t123 then ((desc_Of.f a0).bind fun t124 => ((regletref02_Of.f a0).bind fun t125 => (if t124.toList = t125.toList then ((desc_Class.f a0).bind fun t126 => ((regletref02_Class.f a0).bind fun t127 => (if t126.toList = t127.toList then ((desc_Element.f a0).bind fun t128 => ((regletref02_Element.f a0).bind fun t129 => (some (t128.toList == t129.toList)))) else (some false)))) else (some false)))) else (some false)) = some r := H
  have A5 := Aside0.mk A50
  clear A50
  by_cases c6 : t122 = t123
  ·rw [if_pos c6] at H
   have c6b0 : (t122 == t123) = true := beq_iff_eq.mpr c6
   have c6b1 : (t122 != t123) = false := bne_eq_false_iff_eq.mpr c6
   clear c6
   replace H := Option.bind_eq_some_iff.mp H
   obtain ⟨t124, A70, H⟩ := H
   replace H : ((regletref02_Of.f a0).bind fun t125 => (if t124.toList = t125.toList then ((desc_Class.f a0).bind fun t126 => ((regletref02_Class.f a0).bind fun t127 => (if t126.toList = t127.toList then ((desc_Element.f a0).bind fun t128 => ((regletref02_Element.f a0).bind fun t129 => (some (t128.toList == t129.toList)))) else (some false)))) else (some false))) = some r := H
   have A7 := Aside0.mk A70
   clear A70
   replace H := Option.bind_eq_some_iff.mp H
   obtain ⟨t125, A80, H⟩ := H
   replace H : (if t124.toList = t125.toList then ((desc_Class.f a0).bind fun t126 => ((regletref02_Class.f a0).bind fun t127 => (if t126.toList = t127.toList then ((desc_Element.f a0).bind fun t128 => ((regletref02_Element.f a0).bind fun t129 => (some (t128.toList == t129.toList)))) else (some false)))) else (some false)) = some r := H
   have A8 := Aside0.mk A80
   clear A80
   by_cases c9 : t124.toList = t125.toList
   ·rw [if_pos c9] at H
    have c9b0 : (t124.toList == t125.toList) = true := beq_iff_eq.mpr c9
    have c9b1 : (t124.toList != t125.toList) = false := bne_eq_false_iff_eq.mpr c9
    clear c9
    replace H := Option.bind_eq_some_iff.mp H
    obtain ⟨t126, A100, H⟩ := H
    replace H : ((regletref02_Class.f a0).bind fun t127 => (if t126.toList = t127.toList then ((desc_Element.f a0).bind fun t128 => ((regletref02_Element.f a0).bind fun t129 => (some (t128.toList == t129.toList)))) else (some false))) = some r := H
    have A10 := Aside0.mk A100
    clear A100
    replace H := Option.bind_eq_some_iff.mp H
    obtain ⟨t127, A110, H⟩ := H
    replace H : (if t126.toList = t127.toList then ((desc_Element.f a0).bind fun t128 => ((regletref02_Element.f a0).bind fun t129 => (some (t128.toList == t129.toList)))) else (some false)) = some r := H
    have A11 := Aside0.mk A110
    clear A110
    by_cases c12 : t126.toList = t127.toList
    ·rw [if_pos c12] at H
     have c12b0 : (t126.toList == t127.toList) = true := beq_iff_eq.mpr c12
     have c12b1 : (t126.toList != t127.toList) = false := bne_eq_false_iff_eq.mpr c12
     clear c12
     replace H := Option.bind_eq_some_iff.mp H
     obtain ⟨t128, A130, H⟩ := H
     replace H : ((regletref02_Element.f a0).bind fun t129 => (some (t128.toList == t129.toList))) = some r := H
     have A13 := Aside0.mk A130
     clear A130
     replace H := Option.bind_eq_some_iff.mp H
     obtain ⟨t129, A140, H⟩ := H
     replace H : (some (t128.toList == t129.toList)) = some r := H
     have A14 := Aside0.mk A140
     clear A140
     obtain rfl := Option.some.inj H
     go_enter Try.func3, Try.ntmps3
     go_wp2_with (first | ((with_reducible refine gate_callee (f := 9) rfl ?_); refine goesL_ (some 3) rfl rfl Try.func9 (by kernel_rfl) rfl #[] rfl (by (try simp only [List.map_toArray, List.map_cons, List.map_nil]); first | done | rfl | (simp only [List.length_drop, List.length_take]; rfl)) ?_; (with_reducible refine (regletlaw02_holds.calls k  true _ A2.out).mono ?_); rintro e w15 ⟨rfl, hb⟩; refine ⟨_, rfl, ?_⟩; have n0_ := Aside0.mk (below_step (by repeat (first | (with_reducible first | exact HB.out | apply below_alloc | apply pw_below_drewN | apply below_drew1) | exact HB.out)) hb); clear HB; have HB := n0_; clear n0_; (try clear hb); (try clear hb2); (try clear hk); (try clear hi)) | ((with_reducible refine gate_callee (f := 10) rfl ?_); refine goesL_ (some 6) rfl rfl Try.func10 (by kernel_rfl) rfl #[.string a0] rfl (by (try simp only [List.map_toArray, List.map_cons, List.map_nil]); first | done | rfl | (simp only [List.length_drop, List.length_take]; rfl)) ?_; (with_reducible refine (desc_Kind.calls a0 t122 _ A4.out).mono ?_); rintro e w' ⟨rfl, ⟨nd, rfl⟩⟩; refine ⟨_, rfl, ?_⟩) | ((with_reducible refine gate_callee (f := 11) rfl ?_); refine goesL_ (some 8) rfl rfl Try.func11 (by kernel_rfl) rfl #[.string a0] rfl (by (try simp only [List.map_toArray, List.map_cons, List.map_nil]); first | done | rfl | (simp only [List.length_drop, List.length_take]; rfl)) ?_; (with_reducible refine (regletref02_Kind.calls a0 t123 _ A5.out).mono ?_); rintro e w' ⟨rfl, ⟨nd, rfl⟩⟩; refine ⟨_, rfl, ?_⟩) | (go_at_call 12; (with_reducible refine (desc_Of.calls a0 t124 _ A7.out).mono ?_); rintro e w' ⟨rfl, ⟨nd, rfl⟩⟩) | (go_at_call 13; (with_reducible refine (regletref02_Of.calls a0 t125 _ A8.out).mono ?_); rintro e w' ⟨rfl, ⟨nd, rfl⟩⟩) | (go_at_call 14; (with_reducible refine (desc_Class.calls a0 t126 _ A10.out).mono ?_); rintro e w' ⟨rfl, ⟨nd, rfl⟩⟩) | (go_at_call 15; (with_reducible refine (regletref02_Class.calls a0 t127 _ A11.out).mono ?_); rintro e w' ⟨rfl, ⟨nd, rfl⟩⟩) | (go_at_call 16; (with_reducible refine (desc_Element.calls a0 t128 _ A13.out).mono ?_); rintro e w' ⟨rfl, ⟨nd, rfl⟩⟩) | (go_at_call 17; (with_reducible refine (regletref02_Element.calls a0 t129 _ A14.out).mono ?_); rintro e w' ⟨rfl, ⟨nd, rfl⟩⟩))
     go_ret
     exact ⟨by first | rfl | (simp [errW_none, errW_some] <;> rfl) | (simp [*, errW_none, errW_some] <;> rfl), by repeat (first | (with_reducible first | exact HB.out | apply below_alloc | apply pw_below_drewN | apply below_drew1) | exact HB.out)⟩
    ·rw [if_neg c12] at H
     have c12b0 : (t126.toList == t127.toList) = false := beq_eq_false_iff_ne.mpr c12
     have c12b1 : (t126.toList != t127.toList) = true := bne_iff_ne.mpr c12
     obtain rfl := Option.some.inj H
     go_enter Try.func3, Try.ntmps3
     go_wp2_with (first | ((with_reducible refine gate_callee (f := 9) rfl ?_); refine goesL_ (some 3) rfl rfl Try.func9 (by kernel_rfl) rfl #[] rfl (by (try simp only [List.map_toArray, List.map_cons, List.map_nil]); first | done | rfl | (simp only [List.length_drop, List.length_take]; rfl)) ?_; (with_reducible refine (regletlaw02_holds.calls k  true _ A2.out).mono ?_); rintro e w16 ⟨rfl, hb⟩; refine ⟨_, rfl, ?_⟩; have n0_ := Aside0.mk (below_step (by repeat (first | (with_reducible first | exact HB.out | apply below_alloc | apply pw_below_drewN | apply below_drew1) | exact HB.out)) hb); clear HB; have HB := n0_; clear n0_; (try clear hb); (try clear hb2); (try clear hk); (try clear hi)) | ((with_reducible refine gate_callee (f := 10) rfl ?_); refine goesL_ (some 6) rfl rfl Try.func10 (by kernel_rfl) rfl #[.string a0] rfl (by (try simp only [List.map_toArray, List.map_cons, List.map_nil]); first | done | rfl | (simp only [List.length_drop, List.length_take]; rfl)) ?_; (with_reducible refine (desc_Kind.calls a0 t122 _ A4.out).mono ?_); rintro e w' ⟨rfl, ⟨nd, rfl⟩⟩; refine ⟨_, rfl, ?_⟩) | ((with_reducible refine gate_callee (f := 11) rfl ?_); refine goesL_ (some 8) rfl rfl Try.func11 (by kernel_rfl) rfl #[.string a0] rfl (by (try simp only [List.map_toArray, List.map_cons, List.map_nil]); first | done | rfl | (simp only [List.length_drop, List.length_take]; rfl)) ?_; (with_reducible refine (regletref02_Kind.calls a0 t123 _ A5.out).mono ?_); rintro e w' ⟨rfl, ⟨nd, rfl⟩⟩; refine ⟨_, rfl, ?_⟩) | (go_at_call 12; (with_reducible refine (desc_Of.calls a0 t124 _ A7.out).mono ?_); rintro e w' ⟨rfl, ⟨nd, rfl⟩⟩) | (go_at_call 13; (with_reducible refine (regletref02_Of.calls a0 t125 _ A8.out).mono ?_); rintro e w' ⟨rfl, ⟨nd, rfl⟩⟩) | (go_at_call 14; (with_reducible refine (desc_Class.calls a0 t126 _ A10.out).mono ?_); rintro e w' ⟨rfl, ⟨nd, rfl⟩⟩) | (go_at_call 15; (with_reducible refine (regletref02_Class.calls a0 t127 _ A11.out).mono ?_); rintro e w' ⟨rfl, ⟨nd, rfl⟩⟩))
     go_ret
     exact ⟨by first | rfl | (simp [errW_none, errW_some] <;> rfl) | (simp [*, errW_none, errW_some] <;> rfl), by repeat (first | (with_reducible first | exact HB.out | apply below_alloc | apply pw_below_drewN | apply below_drew1) | exact HB.out)⟩
   ·rw [if_neg c9] at H
    have c9b0 : (t124.toList == t125.toList) = false := beq_eq_false_iff_ne.mpr c9
    have c9b1 : (t124.toList != t125.toList) = true := bne_iff_ne.mpr c9
    obtain rfl := Option.some.inj H
    go_enter Try.func3, Try.ntmps3
    go_wp2_with (first | ((with_reducible refine gate_callee (f := 9) rfl ?_); refine goesL_ (some 3) rfl rfl Try.func9 (by kernel_rfl) rfl #[] rfl (by (try simp only [List.map_toArray, List.map_cons, List.map_nil]); first | done | rfl | (simp only [List.length_drop, List.length_take]; rfl)) ?_; (with_reducible refine (regletlaw02_holds.calls k  true _ A2.out).mono ?_); rintro e w17 ⟨rfl, hb⟩; refine ⟨_, rfl, ?_⟩; have n0_ := Aside0.mk (below_step (by repeat (first | (with_reducible first | exact HB.out | apply below_alloc | apply pw_below_drewN | apply below_drew1) | exact HB.out)) hb); clear HB; have HB := n0_; clear n0_; (try clear hb); (try clear hb2); (try clear hk); (try clear hi)) | ((with_reducible refine gate_callee (f := 10) rfl ?_); refine goesL_ (some 6) rfl rfl Try.func10 (by kernel_rfl) rfl #[.string a0] rfl (by (try simp only [List.map_toArray, List.map_cons, List.map_nil]); first | done | rfl | (simp only [List.length_drop, List.length_take]; rfl)) ?_; (with_reducible refine (desc_Kind.calls a0 t122 _ A4.out).mono ?_); rintro e w' ⟨rfl, ⟨nd, rfl⟩⟩; refine ⟨_, rfl, ?_⟩) | ((with_reducible refine gate_callee (f := 11) rfl ?_); refine goesL_ (some 8) rfl rfl Try.func11 (by kernel_rfl) rfl #[.string a0] rfl (by (try simp only [List.map_toArray, List.map_cons, List.map_nil]); first | done | rfl | (simp only [List.length_drop, List.length_take]; rfl)) ?_; (with_reducible refine (regletref02_Kind.calls a0 t123 _ A5.out).mono ?_); rintro e w' ⟨rfl, ⟨nd, rfl⟩⟩; refine ⟨_, rfl, ?_⟩) | (go_at_call 12; (with_reducible refine (desc_Of.calls a0 t124 _ A7.out).mono ?_); rintro e w' ⟨rfl, ⟨nd, rfl⟩⟩) | (go_at_call 13; (with_reducible refine (regletref02_Of.calls a0 t125 _ A8.out).mono ?_); rintro e w' ⟨rfl, ⟨nd, rfl⟩⟩))
    go_ret
    exact ⟨by first | rfl | (simp [errW_none, errW_some] <;> rfl) | (simp [*, errW_none, errW_some] <;> rfl), by repeat (first | (with_reducible first | exact HB.out | apply below_alloc | apply pw_below_drewN | apply below_drew1) | exact HB.out)⟩
  ·rw [if_neg c6] at H
   have c6b0 : (t122 == t123) = false := beq_eq_false_iff_ne.mpr c6
   have c6b1 : (t122 != t123) = true := bne_iff_ne.mpr c6
   obtain rfl := Option.some.inj H
   go_enter Try.func3, Try.ntmps3
   go_wp2_with (first | ((with_reducible refine gate_callee (f := 9) rfl ?_); refine goesL_ (some 3) rfl rfl Try.func9 (by kernel_rfl) rfl #[] rfl (by (try simp only [List.map_toArray, List.map_cons, List.map_nil]); first | done | rfl | (simp only [List.length_drop, List.length_take]; rfl)) ?_; (with_reducible refine (regletlaw02_holds.calls k  true _ A2.out).mono ?_); rintro e w18 ⟨rfl, hb⟩; refine ⟨_, rfl, ?_⟩; have n0_ := Aside0.mk (below_step (by repeat (first | (with_reducible first | exact HB.out | apply below_alloc | apply pw_below_drewN | apply below_drew1) | exact HB.out)) hb); clear HB; have HB := n0_; clear n0_; (try clear hb); (try clear hb2); (try clear hk); (try clear hi)) | ((with_reducible refine gate_callee (f := 10) rfl ?_); refine goesL_ (some 6) rfl rfl Try.func10 (by kernel_rfl) rfl #[.string a0] rfl (by (try simp only [List.map_toArray, List.map_cons, List.map_nil]); first | done | rfl | (simp only [List.length_drop, List.length_take]; rfl)) ?_; (with_reducible refine (desc_Kind.calls a0 t122 _ A4.out).mono ?_); rintro e w' ⟨rfl, ⟨nd, rfl⟩⟩; refine ⟨_, rfl, ?_⟩) | ((with_reducible refine gate_callee (f := 11) rfl ?_); refine goesL_ (some 8) rfl rfl Try.func11 (by kernel_rfl) rfl #[.string a0] rfl (by (try simp only [List.map_toArray, List.map_cons, List.map_nil]); first | done | rfl | (simp only [List.length_drop, List.length_take]; rfl)) ?_; (with_reducible refine (regletref02_Kind.calls a0 t123 _ A5.out).mono ?_); rintro e w' ⟨rfl, ⟨nd, rfl⟩⟩; refine ⟨_, rfl, ?_⟩))
   go_ret
   exact ⟨by first | rfl | (simp [errW_none, errW_some] <;> rfl) | (simp [*, errW_none, errW_some] <;> rfl), by repeat (first | (with_reducible first | exact HB.out | apply below_alloc | apply pw_below_drewN | apply below_drew1) | exact HB.out)⟩
 ·replace c3 := Bool.eq_false_iff.mpr c3
  subst c3
  have H1 : (some false) = some r := by rw [if_neg (show ¬ (false = true) by decide)] at H; exact H
  clear H
  have H := H1
  clear H1
  obtain rfl := Option.some.inj H
  go_enter Try.func3, Try.ntmps3
  go_wp2_with (first | ((with_reducible refine gate_callee (f := 9) rfl ?_); refine goesL_ (some 3) rfl rfl Try.func9 (by kernel_rfl) rfl #[] rfl (by (try simp only [List.map_toArray, List.map_cons, List.map_nil]); first | done | rfl | (simp only [List.length_drop, List.length_take]; rfl)) ?_; (with_reducible refine (regletlaw02_holds.calls k  false _ A2.out).mono ?_); rintro e w19 ⟨rfl, hb⟩; refine ⟨_, rfl, ?_⟩; have n0_ := Aside0.mk (below_step (by repeat (first | (with_reducible first | exact HB.out | apply below_alloc | apply pw_below_drewN | apply below_drew1) | exact HB.out)) hb); clear HB; have HB := n0_; clear n0_; (try clear hb); (try clear hb2); (try clear hk); (try clear hi)))
  go_ret
  exact ⟨by first | rfl | (simp [errW_none, errW_some] <;> rfl) | (simp [*, errW_none, errW_some] <;> rfl), by repeat (first | (with_reducible first | exact HB.out | apply below_alloc | apply pw_below_drewN | apply below_drew1) | exact HB.out)⟩

/-- THE ONE PURE STATEMENT of regletlaw02_DescParts: yours. -/
def regletlaw02_DescParts.Pure : Prop := ∀ (a0 : ByteArray), a0.size ≤ 140737488351232 → ∃ k, regletlaw02_DescParts.f k a0 = some true
theorem regletlaw02_DescParts.walk (P : regletlaw02_DescParts.Pure) (a0 : ByteArray) (w : World) (w0 : a0.size ≤ 140737488351232) :
  Calls Try.prog 3 #[.string a0] w fun e w' => e = .returned (.bool true) ∧ Below w.heap.size w w' := by
 obtain ⟨k, h⟩ := P a0 w0
 refine (regletlaw02_DescParts.calls k a0 true w h).mono ?_
 rintro e w' ⟨rfl, hd⟩
 exact ⟨rfl, hd⟩

/-! ### regletlaw02_DescArrays: function 4 -/
def regletlaw02_DescArrays.j0 : Nat → ByteArray → Bool → Option (Bool)
 | 0, _, _ => none
 | k + 1, x0, x30 => if x30 = true then (some false) else ((desc_Type.f k x0).bind fun t138 => (if t138 = true then (if 1 + x0.size ≤ 9223372036854775807 then ((strings_HasPrefix.f x0 (⟨#[91, 91, 91, 91, 91, 91, 91, 91]⟩ : ByteArray)).bind fun t139 => ((desc_Type.f k ((⟨#[91]⟩ : ByteArray) ++ x0)).bind fun t140 => (if (t140 != t139) = true then ((desc_Element.f ((⟨#[91]⟩ : ByteArray) ++ x0)).bind fun t141 => (if t141.toList = x0.toList then ((desc_Kind.f ((⟨#[91]⟩ : ByteArray) ++ x0)).bind fun t142 => (if t142 = 3 then ((desc_Of.f ((⟨#[91]⟩ : ByteArray) ++ x0)).bind fun t143 => (if t143.toList = ((⟨#[91]⟩ : ByteArray) ++ x0).toList then ((desc_Kind.f x0).bind fun t144 => (some (decide (t144 > 0)))) else (some false))) else (some false))) else (some false))) else (some false)))) else (none)) else (some true)))
def regletlaw02_DescArrays.f (k : Nat) (a0 : ByteArray) : Option (Bool) := (regletlaw02_holds.f k).bind fun t130 => (if t130 = true then (if (a0.size : Int) > 300 then (some true) else ((desc_Name.f a0 false).bind fun t131 => (if t131 = true then ((desc_Of.f a0).bind fun t132 => ((desc_Class.f t132).bind fun t133 => (if t133.toList = a0.toList then ((desc_Of.f a0).bind fun t134 => ((desc_Type.f k t134).bind fun t135 => (if t135 = true then ((desc_Of.f a0).bind fun t136 => ((desc_Kind.f t136).bind fun t137 => (regletlaw02_DescArrays.j0 k a0 (t137 != 3)))) else (regletlaw02_DescArrays.j0 k a0 true)))) else (regletlaw02_DescArrays.j0 k a0 true)))) else (regletlaw02_DescArrays.j0 k a0 false)))) else (some false))
theorem regletlaw02_DescArrays.mono_l : ∀ k, (∀ y0 y1, LeO (regletlaw02_DescArrays.j0 k y0 y1) (regletlaw02_DescArrays.j0 (k + 1) y0 y1))
 | 0 => fun _ _ r h => by simp [regletlaw02_DescArrays.j0] at h
 | k + 1 => by
  have ih0 := regletlaw02_DescArrays.mono_l k
  ·intro y0 y1
   unfold regletlaw02_DescArrays.j0
   repeat' first
   | (with_reducible exact ih0 _ _)
   | (with_reducible exact desc_Type.mono _ _)
   | (with_reducible exact regletlaw02_holds.mono _)
   | (with_reducible exact LeO.refl _)
   | (with_reducible exact LeO.none _)
   | (with_reducible refine LeO.ite ?_ ?_)
   | (with_reducible refine LeO.bind ?_ (fun _ => ?_))
   | exact ih0 _ _
   | exact desc_Type.mono _ _
   | exact regletlaw02_holds.mono _
   | exact LeO.none _
   | refine LeO.ite ?_ ?_
   | refine LeO.bind ?_ (fun _ => ?_)
theorem regletlaw02_DescArrays.mono : ∀ a0 k, LeO (regletlaw02_DescArrays.f k a0) (regletlaw02_DescArrays.f (k + 1) a0) := by
 intro a0 k
 have ih0 := regletlaw02_DescArrays.mono_l k
 unfold regletlaw02_DescArrays.f
 repeat' first
   | (with_reducible exact ih0 _ _)
   | (with_reducible exact desc_Type.mono _ _)
   | (with_reducible exact regletlaw02_holds.mono _)
   | (with_reducible exact LeO.refl _)
   | (with_reducible exact LeO.none _)
   | (with_reducible refine LeO.ite ?_ ?_)
   | (with_reducible refine LeO.bind ?_ (fun _ => ?_))
   | exact ih0 _ _
   | exact desc_Type.mono _ _
   | exact regletlaw02_holds.mono _
   | exact LeO.none _
   | refine LeO.ite ?_ ?_
   | refine LeO.bind ?_ (fun _ => ?_)
set_option maxHeartbeats 8000000 in
set_option maxRecDepth 100000 in
theorem regletlaw02_DescArrays.calls (k : Nat) (a0 : ByteArray) (r : Bool) (w : World) (h : regletlaw02_DescArrays.f k a0 = some r) :
  Calls Try.prog 4 #[.string a0] w fun e w' => e = .returned (.bool r) ∧ Below w.heap.size w w' := by
 have HB := Aside0.mk (Below.refl w.heap.size w)
 have H : ((regletlaw02_holds.f k).bind fun t130 => (if t130 = true then (if (a0.size : Int) > 300 then (some true) else ((desc_Name.f a0 false).bind fun t131 => (if t131 = true then ((desc_Of.f a0).bind fun t132 => ((desc_Class.f t132).bind fun t133 => (if t133.toList = a0.toList then ((desc_Of.f a0).bind fun t134 => ((desc_Type.f k t134).bind fun t135 => (if t135 = true then ((desc_Of.f a0).bind fun t136 => ((desc_Kind.f t136).bind fun t137 => (regletlaw02_DescArrays.j0 k a0 (t137 != 3)))) else (regletlaw02_DescArrays.j0 k a0 true)))) else (regletlaw02_DescArrays.j0 k a0 true)))) else (regletlaw02_DescArrays.j0 k a0 false)))) else (some false))) = some r := h
 clear h
 replace H := Option.bind_eq_some_iff.mp H
 obtain ⟨t130, A20, H⟩ := H
 replace H : (if t130 = true then (if (a0.size : Int) > 300 then (some true) else ((desc_Name.f a0 false).bind fun t131 => (if t131 = true then ((desc_Of.f a0).bind fun t132 => ((desc_Class.f t132).bind fun t133 => (if t133.toList = a0.toList then ((desc_Of.f a0).bind fun t134 => ((desc_Type.f k t134).bind fun t135 => (if t135 = true then ((desc_Of.f a0).bind fun t136 => ((desc_Kind.f t136).bind fun t137 => (regletlaw02_DescArrays.j0 k a0 (t137 != 3)))) else (regletlaw02_DescArrays.j0 k a0 true)))) else (regletlaw02_DescArrays.j0 k a0 true)))) else (regletlaw02_DescArrays.j0 k a0 false)))) else (some false)) = some r := H
 have A2 := Aside0.mk A20
 clear A20
 by_cases c3 : t130 = true
 ·subst c3
  have H1 : (if (a0.size : Int) > 300 then (some true) else ((desc_Name.f a0 false).bind fun t131 => (if t131 = true then ((desc_Of.f a0).bind fun t132 => ((desc_Class.f t132).bind fun t133 => (if t133.toList = a0.toList then ((desc_Of.f a0).bind fun t134 => ((desc_Type.f k t134).bind fun t135 => (if t135 = true then ((desc_Of.f a0).bind fun t136 => ((desc_Kind.f t136).bind fun t137 => (regletlaw02_DescArrays.j0 k a0 (t137 != 3)))) else (regletlaw02_DescArrays.j0 k a0 true)))) else (regletlaw02_DescArrays.j0 k a0 true)))) else (regletlaw02_DescArrays.j0 k a0 false)))) = some r := by rw [if_pos rfl] at H; exact H
  clear H
  have H := H1
  clear H1
  by_cases c4 : (a0.size : Int) > 300
  ·rw [if_pos c4] at H
   have c4b0 : decide (300 < (a0.size : Int)) = true := decide_eq_true c4
   have c4b1 : decide (300 < a0.size) = true := decide_eq_true (by omega)
   clear c4
   obtain rfl := Option.some.inj H
   go_enter Try.func4, Try.ntmps4
   go_wp2_with (first | ((with_reducible refine gate_callee (f := 9) rfl ?_); refine goesL_ (some 5) rfl rfl Try.func9 (by kernel_rfl) rfl #[] rfl (by (try simp only [List.map_toArray, List.map_cons, List.map_nil]); first | done | rfl | (simp only [List.length_drop, List.length_take]; rfl)) ?_; (with_reducible refine (regletlaw02_holds.calls k  true _ A2.out).mono ?_); rintro e w5 ⟨rfl, hb⟩; refine ⟨_, rfl, ?_⟩; have n0_ := Aside0.mk (below_step (by repeat (first | (with_reducible first | exact HB.out | apply below_alloc | apply pw_below_drewN | apply below_drew1) | exact HB.out)) hb); clear HB; have HB := n0_; clear n0_; (try clear hb); (try clear hb2); (try clear hk); (try clear hi)))
   go_ret
   exact ⟨by first | rfl | (simp [errW_none, errW_some] <;> rfl) | (simp [*, errW_none, errW_some] <;> rfl), by repeat (first | (with_reducible first | exact HB.out | apply below_alloc | apply pw_below_drewN | apply below_drew1) | exact HB.out)⟩
  ·rw [if_neg c4] at H
   have c4b0 : decide (300 < (a0.size : Int)) = false := decide_eq_false c4
   have c4b1 : decide (300 < a0.size) = false := decide_eq_false (by omega)
   clear c4
   have HC6 := Aside0.mk H
   clear H
   go_enter Try.func4, Try.ntmps4
   go_upto_region 5 with (first | ((with_reducible refine gate_callee (f := 9) rfl ?_); refine goesL_ (some 5) rfl rfl Try.func9 (by kernel_rfl) rfl #[] rfl (by (try simp only [List.map_toArray, List.map_cons, List.map_nil]); first | done | rfl | (simp only [List.length_drop, List.length_take]; rfl)) ?_; (with_reducible refine (regletlaw02_holds.calls k  true _ A2.out).mono ?_); rintro e w7 ⟨rfl, hb⟩; refine ⟨_, rfl, ?_⟩; have n0_ := Aside0.mk (below_step (by repeat (first | (with_reducible first | exact HB.out | apply below_alloc | apply pw_below_drewN | apply below_drew1) | exact HB.out)) hb); clear HB; have HB := n0_; clear n0_; (try clear hb); (try clear hb2); (try clear hk); (try clear hi)))
   (try simp only [Act.put, List.setIfInBounds_toArray, List.set_cons_zero, List.set_cons_succ])
   go_cut [30] (fun v30 wc => ∃ (kq : Nat) (x30_5 : Bool), v30 = .bool x30_5 ∧ Aside0 (regletlaw02_DescArrays.j0 kq a0 x30_5 = some r) ∧ Aside0 (kq ≤ k) ∧ Aside0 (Below w.heap.size w wc))
   case first =>
    have H := HC6.out
    clear HC6
    replace H := Option.bind_eq_some_iff.mp H
    obtain ⟨t131, A80, H⟩ := H
    replace H : (if t131 = true then ((desc_Of.f a0).bind fun t132 => ((desc_Class.f t132).bind fun t133 => (if t133.toList = a0.toList then ((desc_Of.f a0).bind fun t134 => ((desc_Type.f k t134).bind fun t135 => (if t135 = true then ((desc_Of.f a0).bind fun t136 => ((desc_Kind.f t136).bind fun t137 => (regletlaw02_DescArrays.j0 k a0 (t137 != 3)))) else (regletlaw02_DescArrays.j0 k a0 true)))) else (regletlaw02_DescArrays.j0 k a0 true)))) else (regletlaw02_DescArrays.j0 k a0 false)) = some r := H
    have A8 := Aside0.mk A80
    clear A80
    by_cases c9 : t131 = true
    ·subst c9
     have H1 : ((desc_Of.f a0).bind fun t132 => ((desc_Class.f t132).bind fun t133 => (if t133.toList = a0.toList then ((desc_Of.f a0).bind fun t134 => ((desc_Type.f k t134).bind fun t135 => (if t135 = true then ((desc_Of.f a0).bind fun t136 => ((desc_Kind.f t136).bind fun t137 => (regletlaw02_DescArrays.j0 k a0 (t137 != 3)))) else (regletlaw02_DescArrays.j0 k a0 true)))) else (regletlaw02_DescArrays.j0 k a0 true)))) = some r := by rw [if_pos rfl] at H; exact H
     clear H
     have H := H1
     clear H1
     replace H := Option.bind_eq_some_iff.mp H
     obtain ⟨t132, A100, H⟩ := H
     replace H : ((desc_Class.f t132).bind fun t133 => (if t133.toList = a0.toList then ((desc_Of.f a0).bind fun t134 => ((desc_Type.f k t134).bind fun t135 => (if t135 = true then ((desc_Of.f a0).bind fun t136 => ((desc_Kind.f t136).bind fun t137 => (regletlaw02_DescArrays.j0 k a0 (t137 != 3)))) else (regletlaw02_DescArrays.j0 k a0 true)))) else (regletlaw02_DescArrays.j0 k a0 true))) = some r := H
     have A10 := Aside0.mk A100
     clear A100
     replace H := Option.bind_eq_some_iff.mp H
     obtain ⟨t133, A110, H⟩ := H
     replace H : (if t133.toList = a0.toList then ((desc_Of.f a0).bind fun t134 => ((desc_Type.f k t134).bind fun t135 => (if t135 = true then ((desc_Of.f a0).bind fun t136 => ((desc_Kind.f t136).bind fun t137 => (regletlaw02_DescArrays.j0 k a0 (t137 != 3)))) else (regletlaw02_DescArrays.j0 k a0 true)))) else (regletlaw02_DescArrays.j0 k a0 true)) = some r := H
     have A11 := Aside0.mk A110
     clear A110
     by_cases c12 : t133.toList = a0.toList
     ·rw [if_pos c12] at H
      have c12b0 : (t133.toList == a0.toList) = true := beq_iff_eq.mpr c12
      have c12b1 : (t133.toList != a0.toList) = false := bne_eq_false_iff_eq.mpr c12
      clear c12
      (first | rw [c12b0] | (simp only [i64_w, i32_w]; rw [c12b0]) | skip)
      replace H := Option.bind_eq_some_iff.mp H
      obtain ⟨t134_2, A130, H⟩ := H
      obtain rfl : t132 = t134_2 := Option.some.inj (A10.out.symm.trans A130)
      replace H : ((desc_Type.f k t132).bind fun t135 => (if t135 = true then ((desc_Of.f a0).bind fun t136 => ((desc_Kind.f t136).bind fun t137 => (regletlaw02_DescArrays.j0 k a0 (t137 != 3)))) else (regletlaw02_DescArrays.j0 k a0 true))) = some r := H
      have A13 := Aside0.mk A130
      clear A130
      replace H := Option.bind_eq_some_iff.mp H
      obtain ⟨t135, A140, H⟩ := H
      replace H : (if t135 = true then ((desc_Of.f a0).bind fun t136 => ((desc_Kind.f t136).bind fun t137 => (regletlaw02_DescArrays.j0 k a0 (t137 != 3)))) else (regletlaw02_DescArrays.j0 k a0 true)) = some r := H
      have A14 := Aside0.mk A140
      clear A140
      by_cases c15 : t135 = true
      ·subst c15
       have H1 : ((desc_Of.f a0).bind fun t136 => ((desc_Kind.f t136).bind fun t137 => (regletlaw02_DescArrays.j0 k a0 (t137 != 3)))) = some r := by rw [if_pos rfl] at H; exact H
       clear H
       have H := H1
       clear H1
       replace H := Option.bind_eq_some_iff.mp H
       obtain ⟨t136_2, A160, H⟩ := H
       obtain rfl : t132 = t136_2 := Option.some.inj (A10.out.symm.trans A160)
       replace H : ((desc_Kind.f t132).bind fun t137 => (regletlaw02_DescArrays.j0 k a0 (t137 != 3))) = some r := H
       have A16 := Aside0.mk A160
       clear A160
       replace H := Option.bind_eq_some_iff.mp H
       obtain ⟨t137, A170, H⟩ := H
       replace H : (regletlaw02_DescArrays.j0 k a0 (t137 != 3)) = some r := H
       have A17 := Aside0.mk A170
       clear A170
       have H' := Aside0.mk H
       clear H
       go_wp2_with (first | ((with_reducible refine gate_callee (f := 18) rfl ?_); refine goesL_ (some 11) rfl rfl Try.func18 (by kernel_rfl) rfl #[.string a0, .bool false] rfl (by (try simp only [List.map_toArray, List.map_cons, List.map_nil]); first | done | rfl | (simp only [List.length_drop, List.length_take]; rfl)) ?_; (with_reducible refine (desc_Name.calls a0 false true _ A8.out).mono ?_); rintro e w18 ⟨rfl, hb⟩; refine ⟨_, rfl, ?_⟩; have n0_ := Aside0.mk (below_step (by repeat (first | (with_reducible first | exact HB.out | apply below_alloc | apply pw_below_drewN | apply below_drew1) | exact HB.out)) hb); clear HB; have HB := n0_; clear n0_; (try clear hb); (try clear hb2); (try clear hk); (try clear hi)) | (go_at_call 12; (with_reducible refine (desc_Of.calls a0 t132 _ A10.out).mono ?_); rintro e w' ⟨rfl, ⟨nd, rfl⟩⟩) | (go_at_call 14; (with_reducible refine (desc_Class.calls t132 t133 _ A11.out).mono ?_); rintro e w' ⟨rfl, ⟨nd, rfl⟩⟩) | (go_at_call 12; (with_reducible refine (desc_Of.calls a0 t132 _ A13.out).mono ?_); rintro e w' ⟨rfl, ⟨nd, rfl⟩⟩) | (go_at_call 19; (with_reducible refine (desc_Type.calls k t132 true _ A14.out).mono ?_); rintro e w19 ⟨rfl, hb⟩; have n0_ := Aside0.mk (below_step (by repeat (first | (with_reducible first | exact HB.out | apply below_alloc | apply pw_below_drewN | apply below_drew1) | exact HB.out)) hb); clear HB; have HB := n0_; clear n0_; (try clear hb); (try clear hb2); (try clear hk); (try clear hi)) | (go_at_call 12; (with_reducible refine (desc_Of.calls a0 t132 _ A16.out).mono ?_); rintro e w' ⟨rfl, ⟨nd, rfl⟩⟩) | (go_at_call 10; (with_reducible refine (desc_Kind.calls t132 t137 _ A17.out).mono ?_); rintro e w' ⟨rfl, ⟨nd, rfl⟩⟩))
       go_meet
       case rel => exact ⟨_, ((t137 != 3)), (by first | rfl | (simp; done) | (simp [*]; done)), H', ⟨by first | omega | exact Nat.le_refl _⟩, ⟨by repeat (first | (with_reducible first | exact HB.out | apply below_alloc | apply pw_below_drewN | apply below_drew1) | exact HB.out)⟩⟩
      ·replace c15 := Bool.eq_false_iff.mpr c15
       subst c15
       have H1 : (regletlaw02_DescArrays.j0 k a0 true) = some r := by rw [if_neg (show ¬ (false = true) by decide)] at H; exact H
       clear H
       have H := H1
       clear H1
       have H' := Aside0.mk H
       clear H
       go_wp2_with (first | ((with_reducible refine gate_callee (f := 18) rfl ?_); refine goesL_ (some 11) rfl rfl Try.func18 (by kernel_rfl) rfl #[.string a0, .bool false] rfl (by (try simp only [List.map_toArray, List.map_cons, List.map_nil]); first | done | rfl | (simp only [List.length_drop, List.length_take]; rfl)) ?_; (with_reducible refine (desc_Name.calls a0 false true _ A8.out).mono ?_); rintro e w20 ⟨rfl, hb⟩; refine ⟨_, rfl, ?_⟩; have n0_ := Aside0.mk (below_step (by repeat (first | (with_reducible first | exact HB.out | apply below_alloc | apply pw_below_drewN | apply below_drew1) | exact HB.out)) hb); clear HB; have HB := n0_; clear n0_; (try clear hb); (try clear hb2); (try clear hk); (try clear hi)) | (go_at_call 12; (with_reducible refine (desc_Of.calls a0 t132 _ A10.out).mono ?_); rintro e w' ⟨rfl, ⟨nd, rfl⟩⟩) | (go_at_call 14; (with_reducible refine (desc_Class.calls t132 t133 _ A11.out).mono ?_); rintro e w' ⟨rfl, ⟨nd, rfl⟩⟩) | (go_at_call 12; (with_reducible refine (desc_Of.calls a0 t132 _ A13.out).mono ?_); rintro e w' ⟨rfl, ⟨nd, rfl⟩⟩) | (go_at_call 19; (with_reducible refine (desc_Type.calls k t132 false _ A14.out).mono ?_); rintro e w21 ⟨rfl, hb⟩; have n0_ := Aside0.mk (below_step (by repeat (first | (with_reducible first | exact HB.out | apply below_alloc | apply pw_below_drewN | apply below_drew1) | exact HB.out)) hb); clear HB; have HB := n0_; clear n0_; (try clear hb); (try clear hb2); (try clear hk); (try clear hi)))
       go_meet
       case rel => exact ⟨_, (true), (by first | rfl | (simp; done) | (simp [*]; done)), H', ⟨by first | omega | exact Nat.le_refl _⟩, ⟨by repeat (first | (with_reducible first | exact HB.out | apply below_alloc | apply pw_below_drewN | apply below_drew1) | exact HB.out)⟩⟩
     ·rw [if_neg c12] at H
      have c12b0 : (t133.toList == a0.toList) = false := beq_eq_false_iff_ne.mpr c12
      have c12b1 : (t133.toList != a0.toList) = true := bne_iff_ne.mpr c12
      (first | rw [c12b0] | (simp only [i64_w, i32_w]; rw [c12b0]) | skip)
      have H' := Aside0.mk H
      clear H
      go_wp2_with (first | ((with_reducible refine gate_callee (f := 18) rfl ?_); refine goesL_ (some 11) rfl rfl Try.func18 (by kernel_rfl) rfl #[.string a0, .bool false] rfl (by (try simp only [List.map_toArray, List.map_cons, List.map_nil]); first | done | rfl | (simp only [List.length_drop, List.length_take]; rfl)) ?_; (with_reducible refine (desc_Name.calls a0 false true _ A8.out).mono ?_); rintro e w22 ⟨rfl, hb⟩; refine ⟨_, rfl, ?_⟩; have n0_ := Aside0.mk (below_step (by repeat (first | (with_reducible first | exact HB.out | apply below_alloc | apply pw_below_drewN | apply below_drew1) | exact HB.out)) hb); clear HB; have HB := n0_; clear n0_; (try clear hb); (try clear hb2); (try clear hk); (try clear hi)) | (go_at_call 12; (with_reducible refine (desc_Of.calls a0 t132 _ A10.out).mono ?_); rintro e w' ⟨rfl, ⟨nd, rfl⟩⟩) | (go_at_call 14; (with_reducible refine (desc_Class.calls t132 t133 _ A11.out).mono ?_); rintro e w' ⟨rfl, ⟨nd, rfl⟩⟩))
      go_meet
      case rel => exact ⟨_, (true), (by first | rfl | (simp; done) | (simp [*]; done)), H', ⟨by first | omega | exact Nat.le_refl _⟩, ⟨by repeat (first | (with_reducible first | exact HB.out | apply below_alloc | apply pw_below_drewN | apply below_drew1) | exact HB.out)⟩⟩
    ·replace c9 := Bool.eq_false_iff.mpr c9
     subst c9
     have H1 : (regletlaw02_DescArrays.j0 k a0 false) = some r := by rw [if_neg (show ¬ (false = true) by decide)] at H; exact H
     clear H
     have H := H1
     clear H1
     have H' := Aside0.mk H
     clear H
     go_wp2_with (first | ((with_reducible refine gate_callee (f := 18) rfl ?_); refine goesL_ (some 11) rfl rfl Try.func18 (by kernel_rfl) rfl #[.string a0, .bool false] rfl (by (try simp only [List.map_toArray, List.map_cons, List.map_nil]); first | done | rfl | (simp only [List.length_drop, List.length_take]; rfl)) ?_; (with_reducible refine (desc_Name.calls a0 false false _ A8.out).mono ?_); rintro e w23 ⟨rfl, hb⟩; refine ⟨_, rfl, ?_⟩; have n0_ := Aside0.mk (below_step (by repeat (first | (with_reducible first | exact HB.out | apply below_alloc | apply pw_below_drewN | apply below_drew1) | exact HB.out)) hb); clear HB; have HB := n0_; clear n0_; (try clear hb); (try clear hb2); (try clear hk); (try clear hi)))
     go_meet
     case rel => exact ⟨_, (false), (by first | rfl | (simp; done) | (simp [*]; done)), H', ⟨by first | omega | exact Nat.le_refl _⟩, ⟨by repeat (first | (with_reducible first | exact HB.out | apply below_alloc | apply pw_below_drewN | apply below_drew1) | exact HB.out)⟩⟩
   case rest =>
    clear HC6
    try clear c1
    try clear p2
    try clear c3
    try clear c4
    try clear c4b0
    try clear c4b1
    try clear c9
    try clear c12
    try clear c12b0
    try clear c12b1
    try clear c15
    try clear c18
    obtain ⟨kq, x30_5, rfl, HA, HJ5, HB⟩ := hcut
    cases kq with
    | zero => exact absurd HA.out (by simp [regletlaw02_DescArrays.j0])
    | succ kj5 =>
     have H := HA.out
     clear HA
     simp only [regletlaw02_DescArrays.j0] at H
     by_cases c24 : x30_5 = true
     ·subst c24
      have H1 : (some false) = some r := by rw [if_pos rfl] at H; exact H
      clear H
      have H := H1
      clear H1
      obtain rfl := Option.some.inj H
      go_wp2
      go_ret
      exact ⟨by first | rfl | (simp [errW_none, errW_some] <;> rfl) | (simp [*, errW_none, errW_some] <;> rfl), by repeat (first | (with_reducible first | exact HB.out | apply below_alloc | apply pw_below_drewN | apply below_drew1) | exact HB.out)⟩
     ·replace c24 := Bool.eq_false_iff.mpr c24
      subst c24
      have H1 : ((desc_Type.f kj5 a0).bind fun t138 => (if t138 = true then (if 1 + a0.size ≤ 9223372036854775807 then ((strings_HasPrefix.f a0 (⟨#[91, 91, 91, 91, 91, 91, 91, 91]⟩ : ByteArray)).bind fun t139 => ((desc_Type.f kj5 ((⟨#[91]⟩ : ByteArray) ++ a0)).bind fun t140 => (if (t140 != t139) = true then ((desc_Element.f ((⟨#[91]⟩ : ByteArray) ++ a0)).bind fun t141 => (if t141.toList = a0.toList then ((desc_Kind.f ((⟨#[91]⟩ : ByteArray) ++ a0)).bind fun t142 => (if t142 = 3 then ((desc_Of.f ((⟨#[91]⟩ : ByteArray) ++ a0)).bind fun t143 => (if t143.toList = ((⟨#[91]⟩ : ByteArray) ++ a0).toList then ((desc_Kind.f a0).bind fun t144 => (some (decide (t144 > 0)))) else (some false))) else (some false))) else (some false))) else (some false)))) else (none)) else (some true))) = some r := by rw [if_neg (show ¬ (false = true) by decide)] at H; exact H
      clear H
      have H := H1
      clear H1
      replace H := Option.bind_eq_some_iff.mp H
      obtain ⟨t138, A250, H⟩ := H
      replace H : (if t138 = true then (if 1 + a0.size ≤ 9223372036854775807 then ((strings_HasPrefix.f a0 (⟨#[91, 91, 91, 91, 91, 91, 91, 91]⟩ : ByteArray)).bind fun t139 => ((desc_Type.f kj5 ((⟨#[91]⟩ : ByteArray) ++ a0)).bind fun t140 => (if (t140 != t139) = true then ((desc_Element.f ((⟨#[91]⟩ : ByteArray) ++ a0)).bind fun t141 => (if t141.toList = a0.toList then ((desc_Kind.f ((⟨#[91]⟩ : ByteArray) ++ a0)).bind fun t142 => (if t142 = 3 then ((desc_Of.f ((⟨#[91]⟩ : ByteArray) ++ a0)).bind fun t143 => (if t143.toList = ((⟨#[91]⟩ : ByteArray) ++ a0).toList then ((desc_Kind.f a0).bind fun t144 => (some (decide (t144 > 0)))) else (some false))) else (some false))) else (some false))) else (some false)))) else (none)) else (some true)) = some r := H
      have A25 := Aside0.mk A250
      clear A250
      by_cases c26 : t138 = true
      ·subst c26
       have H1 : (if 1 + a0.size ≤ 9223372036854775807 then ((strings_HasPrefix.f a0 (⟨#[91, 91, 91, 91, 91, 91, 91, 91]⟩ : ByteArray)).bind fun t139 => ((desc_Type.f kj5 ((⟨#[91]⟩ : ByteArray) ++ a0)).bind fun t140 => (if (t140 != t139) = true then ((desc_Element.f ((⟨#[91]⟩ : ByteArray) ++ a0)).bind fun t141 => (if t141.toList = a0.toList then ((desc_Kind.f ((⟨#[91]⟩ : ByteArray) ++ a0)).bind fun t142 => (if t142 = 3 then ((desc_Of.f ((⟨#[91]⟩ : ByteArray) ++ a0)).bind fun t143 => (if t143.toList = ((⟨#[91]⟩ : ByteArray) ++ a0).toList then ((desc_Kind.f a0).bind fun t144 => (some (decide (t144 > 0)))) else (some false))) else (some false))) else (some false))) else (some false)))) else (none)) = some r := by rw [if_pos rfl] at H; exact H
       clear H
       have H := H1
       clear H1
       by_cases c27 : 1 + a0.size ≤ 9223372036854775807
       ·rw [if_pos c27] at H
        have c27b0 := eq_true c27
        have c27b1 : decide (1 + a0.size ≤ 9223372036854775807) = true := decide_eq_true c27
        try have c27b2 : (9223372036854775807 < 1 + a0.size) = False := eq_false (Nat.not_lt.2 c27)
        replace H := Option.bind_eq_some_iff.mp H
        obtain ⟨t139, A280, H⟩ := H
        replace H : ((desc_Type.f kj5 ((⟨#[91]⟩ : ByteArray) ++ a0)).bind fun t140 => (if (t140 != t139) = true then ((desc_Element.f ((⟨#[91]⟩ : ByteArray) ++ a0)).bind fun t141 => (if t141.toList = a0.toList then ((desc_Kind.f ((⟨#[91]⟩ : ByteArray) ++ a0)).bind fun t142 => (if t142 = 3 then ((desc_Of.f ((⟨#[91]⟩ : ByteArray) ++ a0)).bind fun t143 => (if t143.toList = ((⟨#[91]⟩ : ByteArray) ++ a0).toList then ((desc_Kind.f a0).bind fun t144 => (some (decide (t144 > 0)))) else (some false))) else (some false))) else (some false))) else (some false))) = some r := H
        have A28 := Aside0.mk A280
        clear A280
        replace H := Option.bind_eq_some_iff.mp H
        obtain ⟨t140, A290, H⟩ := H
        replace H : (if (t140 != t139) = true then ((desc_Element.f ((⟨#[91]⟩ : ByteArray) ++ a0)).bind fun t141 => (if t141.toList = a0.toList then ((desc_Kind.f ((⟨#[91]⟩ : ByteArray) ++ a0)).bind fun t142 => (if t142 = 3 then ((desc_Of.f ((⟨#[91]⟩ : ByteArray) ++ a0)).bind fun t143 => (if t143.toList = ((⟨#[91]⟩ : ByteArray) ++ a0).toList then ((desc_Kind.f a0).bind fun t144 => (some (decide (t144 > 0)))) else (some false))) else (some false))) else (some false))) else (some false)) = some r := H
        have A29 := Aside0.mk A290
        clear A290
        by_cases c30 : (t140 != t139) = true
        ·rw [if_pos c30] at H
         have c30b0 : (t140 != t139) = true := c30
         (try (have c30b1 : decide (t140 = t139) = false := by simpa using c30))
         (try (have c30b2 : (t140 == t139) = false := by simpa using c30))
         (try (have c30b3 : ¬ (t140 = t139) := by simpa using c30))
         clear c30
         replace H := Option.bind_eq_some_iff.mp H
         obtain ⟨t141, A310, H⟩ := H
         replace H : (if t141.toList = a0.toList then ((desc_Kind.f ((⟨#[91]⟩ : ByteArray) ++ a0)).bind fun t142 => (if t142 = 3 then ((desc_Of.f ((⟨#[91]⟩ : ByteArray) ++ a0)).bind fun t143 => (if t143.toList = ((⟨#[91]⟩ : ByteArray) ++ a0).toList then ((desc_Kind.f a0).bind fun t144 => (some (decide (t144 > 0)))) else (some false))) else (some false))) else (some false)) = some r := H
         have A31 := Aside0.mk A310
         clear A310
         by_cases c32 : t141.toList = a0.toList
         ·rw [if_pos c32] at H
          have c32b0 : (t141.toList == a0.toList) = true := beq_iff_eq.mpr c32
          have c32b1 : (t141.toList != a0.toList) = false := bne_eq_false_iff_eq.mpr c32
          clear c32
          replace H := Option.bind_eq_some_iff.mp H
          obtain ⟨t142, A330, H⟩ := H
          replace H : (if t142 = 3 then ((desc_Of.f ((⟨#[91]⟩ : ByteArray) ++ a0)).bind fun t143 => (if t143.toList = ((⟨#[91]⟩ : ByteArray) ++ a0).toList then ((desc_Kind.f a0).bind fun t144 => (some (decide (t144 > 0)))) else (some false))) else (some false)) = some r := H
          have A33 := Aside0.mk A330
          clear A330
          by_cases c34 : t142 = 3
          ·rw [if_pos c34] at H
           have c34b0 : (t142 == 3) = true := beq_iff_eq.mpr c34
           have c34b1 : (t142 != 3) = false := bne_eq_false_iff_eq.mpr c34
           clear c34
           replace H := Option.bind_eq_some_iff.mp H
           obtain ⟨t143, A350, H⟩ := H
           replace H : (if t143.toList = ((⟨#[91]⟩ : ByteArray) ++ a0).toList then ((desc_Kind.f a0).bind fun t144 => (some (decide (t144 > 0)))) else (some false)) = some r := H
           have A35 := Aside0.mk A350
           clear A350
           by_cases c36 : t143.toList = ((⟨#[91]⟩ : ByteArray) ++ a0).toList
           ·rw [if_pos c36] at H
            have c36b0 : (t143.toList == ((⟨#[91]⟩ : ByteArray) ++ a0).toList) = true := beq_iff_eq.mpr c36
            have c36b1 : (t143.toList != ((⟨#[91]⟩ : ByteArray) ++ a0).toList) = false := bne_eq_false_iff_eq.mpr c36
            clear c36
            replace H := Option.bind_eq_some_iff.mp H
            obtain ⟨t144, A370, H⟩ := H
            replace H : (some (decide (t144 > 0))) = some r := H
            have A37 := Aside0.mk A370
            clear A370
            obtain rfl := Option.some.inj H
            go_wp2_with (first | ((with_reducible refine gate_callee (f := 19) rfl ?_); refine goesL_ (some 32) rfl rfl Try.func19 (by kernel_rfl) rfl #[.string a0] rfl (by (try simp only [List.map_toArray, List.map_cons, List.map_nil]); first | done | rfl | (simp only [List.length_drop, List.length_take]; rfl)) ?_; (with_reducible refine (desc_Type.calls kj5 a0 true _ A25.out).mono ?_); rintro e w38 ⟨rfl, hb⟩; refine ⟨_, rfl, ?_⟩; have n0_ := Aside0.mk (below_step (by repeat (first | (with_reducible first | exact HB.out | apply below_alloc | apply pw_below_drewN | apply below_drew1) | exact HB.out)) hb); clear HB; have HB := n0_; clear n0_; (try clear hb); (try clear hb2); (try clear hk); (try clear hi)) | ((with_reducible refine gate_callee (f := 20) rfl ?_); refine goesL_ (some 37) rfl rfl Try.func20 (by kernel_rfl) rfl #[.string a0, .string (⟨#[91, 91, 91, 91, 91, 91, 91, 91]⟩ : ByteArray)] rfl (by (try simp only [List.map_toArray, List.map_cons, List.map_nil]); first | done | rfl | (simp only [List.length_drop, List.length_take]; rfl)) ?_; (with_reducible refine (strings_HasPrefix.calls a0 (⟨#[91, 91, 91, 91, 91, 91, 91, 91]⟩ : ByteArray) t139 _ A28.out).mono ?_); rintro e w' ⟨rfl, ⟨nd, rfl⟩⟩; refine ⟨_, rfl, ?_⟩) | ((with_reducible refine gate_callee (f := 19) rfl ?_); refine goesL_ (some 39) rfl rfl Try.func19 (by kernel_rfl) rfl #[.string ((⟨#[91]⟩ : ByteArray) ++ a0)] rfl (by (try simp only [List.map_toArray, List.map_cons, List.map_nil]); first | done | rfl | (simp only [List.length_drop, List.length_take]; rfl)) ?_; (with_reducible refine (desc_Type.calls kj5 ((⟨#[91]⟩ : ByteArray) ++ a0) t140 _ A29.out).mono ?_); rintro e w39 ⟨rfl, hb⟩; refine ⟨_, rfl, ?_⟩; have n0_ := Aside0.mk (below_step (by repeat (first | (with_reducible first | exact HB.out | apply below_alloc | apply pw_below_drewN | apply below_drew1) | exact HB.out)) hb); clear HB; have HB := n0_; clear n0_; (try clear hb); (try clear hb2); (try clear hk); (try clear hi)) | (go_at_call 16; (with_reducible refine (desc_Element.calls ((⟨#[91]⟩ : ByteArray) ++ a0) t141 _ A31.out).mono ?_); rintro e w' ⟨rfl, ⟨nd, rfl⟩⟩) | (go_at_call 10; (with_reducible refine (desc_Kind.calls ((⟨#[91]⟩ : ByteArray) ++ a0) t142 _ A33.out).mono ?_); rintro e w' ⟨rfl, ⟨nd, rfl⟩⟩) | (go_at_call 12; (with_reducible refine (desc_Of.calls ((⟨#[91]⟩ : ByteArray) ++ a0) t143 _ A35.out).mono ?_); rintro e w' ⟨rfl, ⟨nd, rfl⟩⟩) | (go_at_call 10; (with_reducible refine (desc_Kind.calls a0 t144 _ A37.out).mono ?_); rintro e w' ⟨rfl, ⟨nd, rfl⟩⟩))
            go_ret
            exact ⟨by first | rfl | (simp [errW_none, errW_some] <;> rfl) | (simp [*, errW_none, errW_some] <;> rfl), by repeat (first | (with_reducible first | exact HB.out | apply below_alloc | apply pw_below_drewN | apply below_drew1) | exact HB.out)⟩
           ·rw [if_neg c36] at H
            have c36b0 : (t143.toList == ((⟨#[91]⟩ : ByteArray) ++ a0).toList) = false := beq_eq_false_iff_ne.mpr c36
            have c36b1 : (t143.toList != ((⟨#[91]⟩ : ByteArray) ++ a0).toList) = true := bne_iff_ne.mpr c36
            obtain rfl := Option.some.inj H
            go_wp2_with (first | ((with_reducible refine gate_callee (f := 19) rfl ?_); refine goesL_ (some 32) rfl rfl Try.func19 (by kernel_rfl) rfl #[.string a0] rfl (by (try simp only [List.map_toArray, List.map_cons, List.map_nil]); first | done | rfl | (simp only [List.length_drop, List.length_take]; rfl)) ?_; (with_reducible refine (desc_Type.calls kj5 a0 true _ A25.out).mono ?_); rintro e w40 ⟨rfl, hb⟩; refine ⟨_, rfl, ?_⟩; have n0_ := Aside0.mk (below_step (by repeat (first | (with_reducible first | exact HB.out | apply below_alloc | apply pw_below_drewN | apply below_drew1) | exact HB.out)) hb); clear HB; have HB := n0_; clear n0_; (try clear hb); (try clear hb2); (try clear hk); (try clear hi)) | ((with_reducible refine gate_callee (f := 20) rfl ?_); refine goesL_ (some 37) rfl rfl Try.func20 (by kernel_rfl) rfl #[.string a0, .string (⟨#[91, 91, 91, 91, 91, 91, 91, 91]⟩ : ByteArray)] rfl (by (try simp only [List.map_toArray, List.map_cons, List.map_nil]); first | done | rfl | (simp only [List.length_drop, List.length_take]; rfl)) ?_; (with_reducible refine (strings_HasPrefix.calls a0 (⟨#[91, 91, 91, 91, 91, 91, 91, 91]⟩ : ByteArray) t139 _ A28.out).mono ?_); rintro e w' ⟨rfl, ⟨nd, rfl⟩⟩; refine ⟨_, rfl, ?_⟩) | ((with_reducible refine gate_callee (f := 19) rfl ?_); refine goesL_ (some 39) rfl rfl Try.func19 (by kernel_rfl) rfl #[.string ((⟨#[91]⟩ : ByteArray) ++ a0)] rfl (by (try simp only [List.map_toArray, List.map_cons, List.map_nil]); first | done | rfl | (simp only [List.length_drop, List.length_take]; rfl)) ?_; (with_reducible refine (desc_Type.calls kj5 ((⟨#[91]⟩ : ByteArray) ++ a0) t140 _ A29.out).mono ?_); rintro e w41 ⟨rfl, hb⟩; refine ⟨_, rfl, ?_⟩; have n0_ := Aside0.mk (below_step (by repeat (first | (with_reducible first | exact HB.out | apply below_alloc | apply pw_below_drewN | apply below_drew1) | exact HB.out)) hb); clear HB; have HB := n0_; clear n0_; (try clear hb); (try clear hb2); (try clear hk); (try clear hi)) | (go_at_call 16; (with_reducible refine (desc_Element.calls ((⟨#[91]⟩ : ByteArray) ++ a0) t141 _ A31.out).mono ?_); rintro e w' ⟨rfl, ⟨nd, rfl⟩⟩) | (go_at_call 10; (with_reducible refine (desc_Kind.calls ((⟨#[91]⟩ : ByteArray) ++ a0) t142 _ A33.out).mono ?_); rintro e w' ⟨rfl, ⟨nd, rfl⟩⟩) | (go_at_call 12; (with_reducible refine (desc_Of.calls ((⟨#[91]⟩ : ByteArray) ++ a0) t143 _ A35.out).mono ?_); rintro e w' ⟨rfl, ⟨nd, rfl⟩⟩))
            go_ret
            exact ⟨by first | rfl | (simp [errW_none, errW_some] <;> rfl) | (simp [*, errW_none, errW_some] <;> rfl), by repeat (first | (with_reducible first | exact HB.out | apply below_alloc | apply pw_below_drewN | apply below_drew1) | exact HB.out)⟩
          ·rw [if_neg c34] at H
           have c34b0 : (t142 == 3) = false := beq_eq_false_iff_ne.mpr c34
           have c34b1 : (t142 != 3) = true := bne_iff_ne.mpr c34
           obtain rfl := Option.some.inj H
           go_wp2_with (first | ((with_reducible refine gate_callee (f := 19) rfl ?_); refine goesL_ (some 32) rfl rfl Try.func19 (by kernel_rfl) rfl #[.string a0] rfl (by (try simp only [List.map_toArray, List.map_cons, List.map_nil]); first | done | rfl | (simp only [List.length_drop, List.length_take]; rfl)) ?_; (with_reducible refine (desc_Type.calls kj5 a0 true _ A25.out).mono ?_); rintro e w42 ⟨rfl, hb⟩; refine ⟨_, rfl, ?_⟩; have n0_ := Aside0.mk (below_step (by repeat (first | (with_reducible first | exact HB.out | apply below_alloc | apply pw_below_drewN | apply below_drew1) | exact HB.out)) hb); clear HB; have HB := n0_; clear n0_; (try clear hb); (try clear hb2); (try clear hk); (try clear hi)) | ((with_reducible refine gate_callee (f := 20) rfl ?_); refine goesL_ (some 37) rfl rfl Try.func20 (by kernel_rfl) rfl #[.string a0, .string (⟨#[91, 91, 91, 91, 91, 91, 91, 91]⟩ : ByteArray)] rfl (by (try simp only [List.map_toArray, List.map_cons, List.map_nil]); first | done | rfl | (simp only [List.length_drop, List.length_take]; rfl)) ?_; (with_reducible refine (strings_HasPrefix.calls a0 (⟨#[91, 91, 91, 91, 91, 91, 91, 91]⟩ : ByteArray) t139 _ A28.out).mono ?_); rintro e w' ⟨rfl, ⟨nd, rfl⟩⟩; refine ⟨_, rfl, ?_⟩) | ((with_reducible refine gate_callee (f := 19) rfl ?_); refine goesL_ (some 39) rfl rfl Try.func19 (by kernel_rfl) rfl #[.string ((⟨#[91]⟩ : ByteArray) ++ a0)] rfl (by (try simp only [List.map_toArray, List.map_cons, List.map_nil]); first | done | rfl | (simp only [List.length_drop, List.length_take]; rfl)) ?_; (with_reducible refine (desc_Type.calls kj5 ((⟨#[91]⟩ : ByteArray) ++ a0) t140 _ A29.out).mono ?_); rintro e w43 ⟨rfl, hb⟩; refine ⟨_, rfl, ?_⟩; have n0_ := Aside0.mk (below_step (by repeat (first | (with_reducible first | exact HB.out | apply below_alloc | apply pw_below_drewN | apply below_drew1) | exact HB.out)) hb); clear HB; have HB := n0_; clear n0_; (try clear hb); (try clear hb2); (try clear hk); (try clear hi)) | (go_at_call 16; (with_reducible refine (desc_Element.calls ((⟨#[91]⟩ : ByteArray) ++ a0) t141 _ A31.out).mono ?_); rintro e w' ⟨rfl, ⟨nd, rfl⟩⟩) | (go_at_call 10; (with_reducible refine (desc_Kind.calls ((⟨#[91]⟩ : ByteArray) ++ a0) t142 _ A33.out).mono ?_); rintro e w' ⟨rfl, ⟨nd, rfl⟩⟩))
           go_ret
           exact ⟨by first | rfl | (simp [errW_none, errW_some] <;> rfl) | (simp [*, errW_none, errW_some] <;> rfl), by repeat (first | (with_reducible first | exact HB.out | apply below_alloc | apply pw_below_drewN | apply below_drew1) | exact HB.out)⟩
         ·rw [if_neg c32] at H
          have c32b0 : (t141.toList == a0.toList) = false := beq_eq_false_iff_ne.mpr c32
          have c32b1 : (t141.toList != a0.toList) = true := bne_iff_ne.mpr c32
          obtain rfl := Option.some.inj H
          go_wp2_with (first | ((with_reducible refine gate_callee (f := 19) rfl ?_); refine goesL_ (some 32) rfl rfl Try.func19 (by kernel_rfl) rfl #[.string a0] rfl (by (try simp only [List.map_toArray, List.map_cons, List.map_nil]); first | done | rfl | (simp only [List.length_drop, List.length_take]; rfl)) ?_; (with_reducible refine (desc_Type.calls kj5 a0 true _ A25.out).mono ?_); rintro e w44 ⟨rfl, hb⟩; refine ⟨_, rfl, ?_⟩; have n0_ := Aside0.mk (below_step (by repeat (first | (with_reducible first | exact HB.out | apply below_alloc | apply pw_below_drewN | apply below_drew1) | exact HB.out)) hb); clear HB; have HB := n0_; clear n0_; (try clear hb); (try clear hb2); (try clear hk); (try clear hi)) | ((with_reducible refine gate_callee (f := 20) rfl ?_); refine goesL_ (some 37) rfl rfl Try.func20 (by kernel_rfl) rfl #[.string a0, .string (⟨#[91, 91, 91, 91, 91, 91, 91, 91]⟩ : ByteArray)] rfl (by (try simp only [List.map_toArray, List.map_cons, List.map_nil]); first | done | rfl | (simp only [List.length_drop, List.length_take]; rfl)) ?_; (with_reducible refine (strings_HasPrefix.calls a0 (⟨#[91, 91, 91, 91, 91, 91, 91, 91]⟩ : ByteArray) t139 _ A28.out).mono ?_); rintro e w' ⟨rfl, ⟨nd, rfl⟩⟩; refine ⟨_, rfl, ?_⟩) | ((with_reducible refine gate_callee (f := 19) rfl ?_); refine goesL_ (some 39) rfl rfl Try.func19 (by kernel_rfl) rfl #[.string ((⟨#[91]⟩ : ByteArray) ++ a0)] rfl (by (try simp only [List.map_toArray, List.map_cons, List.map_nil]); first | done | rfl | (simp only [List.length_drop, List.length_take]; rfl)) ?_; (with_reducible refine (desc_Type.calls kj5 ((⟨#[91]⟩ : ByteArray) ++ a0) t140 _ A29.out).mono ?_); rintro e w45 ⟨rfl, hb⟩; refine ⟨_, rfl, ?_⟩; have n0_ := Aside0.mk (below_step (by repeat (first | (with_reducible first | exact HB.out | apply below_alloc | apply pw_below_drewN | apply below_drew1) | exact HB.out)) hb); clear HB; have HB := n0_; clear n0_; (try clear hb); (try clear hb2); (try clear hk); (try clear hi)) | (go_at_call 16; (with_reducible refine (desc_Element.calls ((⟨#[91]⟩ : ByteArray) ++ a0) t141 _ A31.out).mono ?_); rintro e w' ⟨rfl, ⟨nd, rfl⟩⟩))
          go_ret
          exact ⟨by first | rfl | (simp [errW_none, errW_some] <;> rfl) | (simp [*, errW_none, errW_some] <;> rfl), by repeat (first | (with_reducible first | exact HB.out | apply below_alloc | apply pw_below_drewN | apply below_drew1) | exact HB.out)⟩
        ·rw [if_neg c30] at H
         have c30b0 : (t140 != t139) = false := by simpa using c30
         (try (have c30b1 : decide (t140 = t139) = true := by simpa using c30))
         (try (have c30b2 : (t140 == t139) = true := by simpa using c30))
         clear c30
         obtain rfl := Option.some.inj H
         go_wp2_with (first | ((with_reducible refine gate_callee (f := 19) rfl ?_); refine goesL_ (some 32) rfl rfl Try.func19 (by kernel_rfl) rfl #[.string a0] rfl (by (try simp only [List.map_toArray, List.map_cons, List.map_nil]); first | done | rfl | (simp only [List.length_drop, List.length_take]; rfl)) ?_; (with_reducible refine (desc_Type.calls kj5 a0 true _ A25.out).mono ?_); rintro e w46 ⟨rfl, hb⟩; refine ⟨_, rfl, ?_⟩; have n0_ := Aside0.mk (below_step (by repeat (first | (with_reducible first | exact HB.out | apply below_alloc | apply pw_below_drewN | apply below_drew1) | exact HB.out)) hb); clear HB; have HB := n0_; clear n0_; (try clear hb); (try clear hb2); (try clear hk); (try clear hi)) | ((with_reducible refine gate_callee (f := 20) rfl ?_); refine goesL_ (some 37) rfl rfl Try.func20 (by kernel_rfl) rfl #[.string a0, .string (⟨#[91, 91, 91, 91, 91, 91, 91, 91]⟩ : ByteArray)] rfl (by (try simp only [List.map_toArray, List.map_cons, List.map_nil]); first | done | rfl | (simp only [List.length_drop, List.length_take]; rfl)) ?_; (with_reducible refine (strings_HasPrefix.calls a0 (⟨#[91, 91, 91, 91, 91, 91, 91, 91]⟩ : ByteArray) t139 _ A28.out).mono ?_); rintro e w' ⟨rfl, ⟨nd, rfl⟩⟩; refine ⟨_, rfl, ?_⟩) | ((with_reducible refine gate_callee (f := 19) rfl ?_); refine goesL_ (some 39) rfl rfl Try.func19 (by kernel_rfl) rfl #[.string ((⟨#[91]⟩ : ByteArray) ++ a0)] rfl (by (try simp only [List.map_toArray, List.map_cons, List.map_nil]); first | done | rfl | (simp only [List.length_drop, List.length_take]; rfl)) ?_; (with_reducible refine (desc_Type.calls kj5 ((⟨#[91]⟩ : ByteArray) ++ a0) t140 _ A29.out).mono ?_); rintro e w47 ⟨rfl, hb⟩; refine ⟨_, rfl, ?_⟩; have n0_ := Aside0.mk (below_step (by repeat (first | (with_reducible first | exact HB.out | apply below_alloc | apply pw_below_drewN | apply below_drew1) | exact HB.out)) hb); clear HB; have HB := n0_; clear n0_; (try clear hb); (try clear hb2); (try clear hk); (try clear hi)))
         go_ret
         exact ⟨by first | rfl | (simp [errW_none, errW_some] <;> rfl) | (simp [*, errW_none, errW_some] <;> rfl), by repeat (first | (with_reducible first | exact HB.out | apply below_alloc | apply pw_below_drewN | apply below_drew1) | exact HB.out)⟩
       ·rw [if_neg c27] at H
        exact absurd H (by simp)
      ·replace c26 := Bool.eq_false_iff.mpr c26
       subst c26
       have H1 : (some true) = some r := by rw [if_neg (show ¬ (false = true) by decide)] at H; exact H
       clear H
       have H := H1
       clear H1
       obtain rfl := Option.some.inj H
       go_wp2_with (first | ((with_reducible refine gate_callee (f := 19) rfl ?_); refine goesL_ (some 32) rfl rfl Try.func19 (by kernel_rfl) rfl #[.string a0] rfl (by (try simp only [List.map_toArray, List.map_cons, List.map_nil]); first | done | rfl | (simp only [List.length_drop, List.length_take]; rfl)) ?_; (with_reducible refine (desc_Type.calls kj5 a0 false _ A25.out).mono ?_); rintro e w48 ⟨rfl, hb⟩; refine ⟨_, rfl, ?_⟩; have n0_ := Aside0.mk (below_step (by repeat (first | (with_reducible first | exact HB.out | apply below_alloc | apply pw_below_drewN | apply below_drew1) | exact HB.out)) hb); clear HB; have HB := n0_; clear n0_; (try clear hb); (try clear hb2); (try clear hk); (try clear hi)))
       go_ret
       exact ⟨by first | rfl | (simp [errW_none, errW_some] <;> rfl) | (simp [*, errW_none, errW_some] <;> rfl), by repeat (first | (with_reducible first | exact HB.out | apply below_alloc | apply pw_below_drewN | apply below_drew1) | exact HB.out)⟩
 ·replace c3 := Bool.eq_false_iff.mpr c3
  subst c3
  have H1 : (some false) = some r := by rw [if_neg (show ¬ (false = true) by decide)] at H; exact H
  clear H
  have H := H1
  clear H1
  obtain rfl := Option.some.inj H
  go_enter Try.func4, Try.ntmps4
  go_wp2_with (first | ((with_reducible refine gate_callee (f := 9) rfl ?_); refine goesL_ (some 5) rfl rfl Try.func9 (by kernel_rfl) rfl #[] rfl (by (try simp only [List.map_toArray, List.map_cons, List.map_nil]); first | done | rfl | (simp only [List.length_drop, List.length_take]; rfl)) ?_; (with_reducible refine (regletlaw02_holds.calls k  false _ A2.out).mono ?_); rintro e w49 ⟨rfl, hb⟩; refine ⟨_, rfl, ?_⟩; have n0_ := Aside0.mk (below_step (by repeat (first | (with_reducible first | exact HB.out | apply below_alloc | apply pw_below_drewN | apply below_drew1) | exact HB.out)) hb); clear HB; have HB := n0_; clear n0_; (try clear hb); (try clear hb2); (try clear hk); (try clear hi)))
  go_ret
  exact ⟨by first | rfl | (simp [errW_none, errW_some] <;> rfl) | (simp [*, errW_none, errW_some] <;> rfl), by repeat (first | (with_reducible first | exact HB.out | apply below_alloc | apply pw_below_drewN | apply below_drew1) | exact HB.out)⟩

/-- THE ONE PURE STATEMENT of regletlaw02_DescArrays: yours. -/
def regletlaw02_DescArrays.Pure : Prop := ∀ (a0 : ByteArray), a0.size ≤ 140737488351232 → ∃ k, regletlaw02_DescArrays.f k a0 = some true
theorem regletlaw02_DescArrays.walk (P : regletlaw02_DescArrays.Pure) (a0 : ByteArray) (w : World) (w0 : a0.size ≤ 140737488351232) :
  Calls Try.prog 4 #[.string a0] w fun e w' => e = .returned (.bool true) ∧ Below w.heap.size w w' := by
 obtain ⟨k, h⟩ := P a0 w0
 refine (regletlaw02_DescArrays.calls k a0 true w h).mono ?_
 rintro e w' ⟨rfl, hd⟩
 exact ⟨rfl, hd⟩

/-! ### strings_Join: function 21 -/
def strings_Join.f (l0 : List ByteArray) (a1 : ByteArray) : Option (ByteArray) := if l0.length ≤ 140737488355328 then (if (Lib.join (l0.map (·.data.toList)) a1.data.toList).length ≤ 140737488355328 then some ⟨(Lib.join (l0.map (·.data.toList)) a1.data.toList).toArray⟩ else none) else none
theorem strings_Join.calls (A0 : Option Addr) (c0 : Nat) (l0 : List ByteArray) (a1 : ByteArray) (r : ByteArray) (w : World) (hr0 : Kd.C Kd.string w A0 l0.length l0) (hc0 : l0.length ≤ c0) (h : strings_Join.f l0 a1 = some r) :
  Calls Try.prog 21 #[.slice A0 l0.length c0, .string a1] w fun e w' => e = .returned (.string r) ∧ Below w.heap.size w w' := by
 unfold strings_Join.f at h
 by_cases h1 : l0.length ≤ 140737488355328
 ·rw [if_pos h1] at h
  by_cases h2 : (Lib.join (l0.map (·.data.toList)) a1.data.toList).length ≤ 140737488355328
  ·rw [if_pos h2] at h
   obtain rfl := Option.some.inj h
   cases l0 with
   | nil => exact (Go.Proofs.Try.strings_Join_none A0 c0 a1 w).mono fun e w' ⟨he, hw⟩ => ⟨he, hw ▸ Below.refl _ _⟩
   | cons x t =>
    obtain ⟨ad, rfl, hc⟩ := hr0.2.2 (by simp)
    have hcell : ∀ (j : Nat) y, (x :: t)[j]? = some y → w.cell? (ad.add j) = some (.string y) := fun j y hj => by
     obtain ⟨c, hl, hk, hu⟩ := hc j y hj
     have hk' : c = [Value.string y] := hk
     subst hk'
     have := hu 0 (.string y) rfl
     simpa [Kd.string, Kd.scalar] using this
    have h0 := hcell 0 x rfl
    have hb := World.block_lt_of_cell? w _ h0
    obtain ⟨b, o, sp⟩ := ad
    have hsp : sp = none := by
     have h0' : w.cell? ⟨b, o, sp⟩ = some (.string x) := h0
     unfold World.cell? at h0'
     split at h0'
     ·split at h0'
      ·simp at h0'
      ·rename_i hn; simpa using hn
     ·simp at h0'
    subst hsp
    have hb' : b < w.heap.size := hb
    refine Go.Proofs.Try.strings_Join b o c0 (x :: t) a1 w (fun j y hj => ?_) hb' h1 hc0 h2
    have := hcell j y hj
    unfold Addr.add at this
    split at this
    ·rename_i hz; subst hz; exact this
    ·exact this
  ·rw [if_neg h2] at h; exact absurd h (by simp)
 ·rw [if_neg h1] at h; exact absurd h (by simp)

/-! ### regletref02_Same: function 23 -/
def regletref02_Same.l0 : Nat → List ByteArray → List ByteArray → Int → Option (Bool)
 | 0, _, _, _ => none
 | k + 1, x0, x1, x5 => if x5 < (x0.length : Int) then (if 0 ≤ x5 then (if x5 < (x1.length : Int) then (if (rdOf ByteArray.empty x0 x5).toList = (rdOf ByteArray.empty x1 x5).toList then (regletref02_Same.l0 k x0 x1 (wrap64 (x5 + 1))) else (some false)) else (none)) else (none)) else (some true)
def regletref02_Same.f (k : Nat) (l0 : List ByteArray) (l1 : List ByteArray) : Option (Bool) := if (l0.length : Int) = (l1.length : Int) then (regletref02_Same.l0 k l0 l1 0) else (some false)
theorem regletref02_Same.mono_l : ∀ k, (∀ y0 y1 y2, LeO (regletref02_Same.l0 k y0 y1 y2) (regletref02_Same.l0 (k + 1) y0 y1 y2))
 | 0 => fun _ _ _ r h => by simp [regletref02_Same.l0] at h
 | k + 1 => by
  have ih0 := regletref02_Same.mono_l k
  ·intro y0 y1 y2
   unfold regletref02_Same.l0
   repeat' first
   | (with_reducible exact ih0 _ _ _)
   | (with_reducible exact LeO.refl _)
   | (with_reducible exact LeO.none _)
   | (with_reducible refine LeO.ite ?_ ?_)
   | (with_reducible refine LeO.bind ?_ (fun _ => ?_))
   | exact ih0 _ _ _
   | exact LeO.none _
   | refine LeO.ite ?_ ?_
   | refine LeO.bind ?_ (fun _ => ?_)
theorem regletref02_Same.mono : ∀ a0 a1 k, LeO (regletref02_Same.f k a0 a1) (regletref02_Same.f (k + 1) a0 a1) := by
 intro a0 a1 k
 have ih0 := regletref02_Same.mono_l k
 unfold regletref02_Same.f
 repeat' first
   | (with_reducible exact ih0 _ _ _)
   | (with_reducible exact LeO.refl _)
   | (with_reducible exact LeO.none _)
   | (with_reducible refine LeO.ite ?_ ?_)
   | (with_reducible refine LeO.bind ?_ (fun _ => ?_))
   | exact ih0 _ _ _
   | exact LeO.none _
   | refine LeO.ite ?_ ?_
   | refine LeO.bind ?_ (fun _ => ?_)
set_option maxHeartbeats 8000000 in
set_option maxRecDepth 100000 in
theorem regletref02_Same.calls (k : Nat) (A0 : Option Addr) (c0 : Nat) (l0 : List ByteArray) (A1 : Option Addr) (c1 : Nat) (l1 : List ByteArray) (r : Bool) (w : World) (hr0 : Kd.C Kd.string w A0 l0.length l0) (hc0 : l0.length ≤ c0) (hr1 : Kd.C Kd.string w A1 l1.length l1) (hc1 : l1.length ≤ c1) (h : regletref02_Same.f k l0 l1 = some r) :
  Calls Try.prog 23 #[.slice A0 l0.length c0, .slice A1 l1.length c1] w fun e w' => e = .returned (.bool r) ∧ Drawn0 w w' := by
 have HR0 := Aside0.mk hr0
 have HC0 := Aside0.mk hc0
 clear hr0 hc0
 have HR1 := Aside0.mk hr1
 have HC1 := Aside0.mk hc1
 clear hr1 hc1
 have H : (if (l0.length : Int) = (l1.length : Int) then (regletref02_Same.l0 k l0 l1 0) else (some false)) = some r := h
 clear h
 by_cases c3 : (l0.length : Int) = (l1.length : Int)
 ·rw [if_pos c3] at H
  have c3b0 : ((l0.length : Int) == (l1.length : Int)) = true := beq_iff_eq.mpr c3
  have c3b1 : ((l0.length : Int) != (l1.length : Int)) = false := bne_eq_false_iff_eq.mpr c3
  have c3b2 : (l0.length == l1.length) = true := by first | simpa using c3 | (simp at c3 ⊢; omega)
  clear c3
  have H' := Aside0.mk H
  clear H
  go_enter Try.func23, Try.ntmps23
  go_wp2
  repeat (go_quiet (fail); try go_wp2)
  go_loopg [5] k (fun kq v5 w' => ∃ (x5_1 : Int), v5 = .int .i64 x5_1 ∧ Aside0 (regletref02_Same.l0 kq l0 l1 x5_1 = some r) ∧ Aside0 (kq ≤ k) ∧ Drawn0 w w')
  case atStart => exact ⟨(0), (by first | rfl | (simp; done) | (simp [*]; done)), H', ⟨Nat.le_refl _⟩, by repeat (first | exact Drawn0.refl _ | apply Drawn0.step)⟩
  case round =>
   clear H'
   try clear c1
   try clear c2
   try clear p2
   try clear c3
   try clear c3b0
   try clear c3b1
   try clear c3b2
   obtain ⟨x5_1, rfl, HA, HK1, ⟨m1, rfl⟩⟩ := hrel
   cases gk with
   | zero => exact absurd HA.out (by simp [regletref02_Same.l0])
   | succ k1 =>
    have H := HA.out
    clear HA
    simp only [regletref02_Same.l0] at H
    by_cases c4 : x5_1 < (l0.length : Int)
    ·rw [if_pos c4] at H
     have c4b0 : decide (x5_1 < (l0.length : Int)) = true := decide_eq_true c4
     clear c4
     by_cases c5 : 0 ≤ x5_1
     ·rw [if_pos c5] at H
      have c5b0 : decide (0 ≤ x5_1) = true := decide_eq_true c5
      clear c5
      by_cases c6 : x5_1 < (l1.length : Int)
      ·rw [if_pos c6] at H
       have c6b0 : decide (x5_1 < (l1.length : Int)) = true := decide_eq_true c6
       clear c6
       by_cases c7 : (rdOf ByteArray.empty l0 x5_1).toList = (rdOf ByteArray.empty l1 x5_1).toList
       ·rw [if_pos c7] at H
        have c7b0 : ((rdOf ByteArray.empty l0 x5_1).toList == (rdOf ByteArray.empty l1 x5_1).toList) = true := beq_iff_eq.mpr c7
        have c7b1 : ((rdOf ByteArray.empty l0 x5_1).toList != (rdOf ByteArray.empty l1 x5_1).toList) = false := bne_eq_false_iff_eq.mpr c7
        clear c7
        have H' := Aside0.mk H
        clear H
        have p145 : 0 ≤ (x5_1 : Int) := of_decide_eq_true (by first | (with_reducible assumption) | assumption)
        have q145 : x5_1 < (l0.length : Int) := of_decide_eq_true (by first | (with_reducible assumption) | assumption)
        obtain ⟨ad145, e145, hx145_0⟩ := Kd.at_string HR0.out x5_1 p145 q145
        cases e145
        replace p145 := eq_true p145
        replace q145 := eq_true q145
        have p146 : 0 ≤ (x5_1 : Int) := of_decide_eq_true (by first | (with_reducible assumption) | assumption)
        have q146 : x5_1 < (l1.length : Int) := of_decide_eq_true (by first | (with_reducible assumption) | assumption)
        obtain ⟨ad146, e146, hx146_0⟩ := Kd.at_string HR1.out x5_1 p146 q146
        cases e146
        replace p146 := eq_true p146
        replace q146 := eq_true q146
        go_wp2
        repeat (go_quiet (fail); try go_wp2)
        go_roundg k1
        case measure => have := HK1.out; omega
        case rel => exact ⟨(wrap64 (x5_1 + 1)), (by first | rfl | (simp; done) | (simp [*]; done)), H', ⟨by have := HK1.out; omega⟩, by repeat (first | exact Drawn0.refl _ | apply Drawn0.step)⟩
       ·rw [if_neg c7] at H
        have c7b0 : ((rdOf ByteArray.empty l0 x5_1).toList == (rdOf ByteArray.empty l1 x5_1).toList) = false := beq_eq_false_iff_ne.mpr c7
        have c7b1 : ((rdOf ByteArray.empty l0 x5_1).toList != (rdOf ByteArray.empty l1 x5_1).toList) = true := bne_iff_ne.mpr c7
        obtain rfl := Option.some.inj H
        have p145 : 0 ≤ (x5_1 : Int) := of_decide_eq_true (by first | (with_reducible assumption) | assumption)
        have q145 : x5_1 < (l0.length : Int) := of_decide_eq_true (by first | (with_reducible assumption) | assumption)
        obtain ⟨ad145, e145, hx145_0⟩ := Kd.at_string HR0.out x5_1 p145 q145
        cases e145
        replace p145 := eq_true p145
        replace q145 := eq_true q145
        have p146 : 0 ≤ (x5_1 : Int) := of_decide_eq_true (by first | (with_reducible assumption) | assumption)
        have q146 : x5_1 < (l1.length : Int) := of_decide_eq_true (by first | (with_reducible assumption) | assumption)
        obtain ⟨ad146, e146, hx146_0⟩ := Kd.at_string HR1.out x5_1 p146 q146
        cases e146
        replace p146 := eq_true p146
        replace q146 := eq_true q146
        go_wp2
        repeat (go_quiet (fail); try go_wp2)
        go_ret
        exact ⟨by first | rfl | (simp; done) | (simp [*]; done), by repeat (first | exact Drawn0.refl _ | apply Drawn0.step)⟩
      ·rw [if_neg c6] at H
       exact absurd H (by simp)
     ·rw [if_neg c5] at H
      exact absurd H (by simp)
    ·rw [if_neg c4] at H
     have c4b0 : decide (x5_1 < (l0.length : Int)) = false := decide_eq_false c4
     clear c4
     obtain rfl := Option.some.inj H
     go_wp2
     repeat (go_quiet (fail); try go_wp2)
     go_ret
     exact ⟨by first | rfl | (simp; done) | (simp [*]; done), by repeat (first | exact Drawn0.refl _ | apply Drawn0.step)⟩
 ·rw [if_neg c3] at H
  have c3b0 : ((l0.length : Int) == (l1.length : Int)) = false := beq_eq_false_iff_ne.mpr c3
  have c3b1 : ((l0.length : Int) != (l1.length : Int)) = true := bne_iff_ne.mpr c3
  have c3b2 : (l0.length == l1.length) = false := by first | simpa using c3 | (simp at c3 ⊢; omega)
  obtain rfl := Option.some.inj H
  go_enter Try.func23, Try.ntmps23
  go_wp2
  repeat (go_quiet (fail); try go_wp2)
  go_ret
  exact ⟨by first | rfl | (simp; done) | (simp [*]; done), by repeat (first | exact Drawn0.refl _ | apply Drawn0.step)⟩

end Go.Proofs.Ytbbogkhidaekoaa.PAll
