-- Printed by this session's own program wip/tools/pp.py (the kit's printer with hooks of the session's); not a text of print.sh.
import Derived.Test.YtbbogkhidaekoaaPAllx0
import Derived.Test.YtbbogkhidaekoaaPAllx2
import Derived.Test.YtbbogkhidaekoaaPAllx3
import Derived.Test.YtbbogkhidaekoaaPAllx5
namespace Go.Proofs.Ytbbogkhidaekoaa.PAll
open Go.RowKit Go.Proofs.YtbbogkhidaekoaaW.PrintWords Go.Proofs.YtbbogkhidaekoaaW.PrintLast Go.Proofs.YtbbogkhidaekoaaW.PrintMore
attribute [local go_sem] max2_int min2_int max_two min_two max_three min_three max_four min_four   -- for this text's walks alone
set_option linter.unusedVariables false
set_option linter.unusedSimpArgs false

/-! ### regletlaw02_DescWhole: function 5 -/
mutual
def regletlaw02_DescWhole.j0 : Nat → List ByteArray → ByteArray → ByteArray → Bool → Option (Bool)
 | 0, _, _, _, _ => none
 | k + 1, x0, x1, x5, x6 => regletlaw02_DescWhole.l0 k x0 x1 x5 x6 x0 (x0.length : Int) 0
def regletlaw02_DescWhole.l0 : Nat → List ByteArray → ByteArray → ByteArray → Bool → List ByteArray → Int → Int → Option (Bool)
 | 0, _, _, _, _, _, _, _ => none
 | k + 1, x0, x1, x5, x6, x31, x32, x33 => if x33 < x32 then (if 0 ≤ x33 then (if x33 < (x31.length : Int) then (if x6 = true then ((desc_Type.f k (rdOf ByteArray.empty x31 x33)).bind fun t151 => (regletlaw02_DescWhole.l0 k x0 x1 x5 t151 x31 x32 (wrap64 (x33 + 1)))) else (regletlaw02_DescWhole.l0 k x0 x1 x5 false x31 x32 (wrap64 (x33 + 1)))) else (none)) else (none)) else ((desc_Method.f k x5).bind fun bt152 => (if bt152.2.2 = 0 then ((strings_Join.f bt152.1 (⟨#[]⟩ : ByteArray)).bind fun t157 => (if 1 + t157.size ≤ 9223372036854775807 then (if ((⟨#[40]⟩ : ByteArray) ++ t157).size + 1 ≤ 9223372036854775807 then (if (((⟨#[40]⟩ : ByteArray) ++ t157) ++ (⟨#[41]⟩ : ByteArray)).size + bt152.2.1.size ≤ 9223372036854775807 then (if ((((⟨#[40]⟩ : ByteArray) ++ t157) ++ (⟨#[41]⟩ : ByteArray)) ++ bt152.2.1).toList = x5.toList then (if x6 = true then (if bt152.2.1.toList = x1.toList then ((regletref02_Same.f k x0 bt152.1).bind fun t158 => (some t158)) else (some false)) else (some true)) else (some false)) else (none)) else (none)) else (none))) else (if x6 = true then (some false) else (some true))))
end
def regletlaw02_DescWhole.f (k : Nat) (l0 : List ByteArray) (a1 : ByteArray) : Option (Bool) := (regletlaw02_holds.f k).bind fun t147 => (if t147 = true then ((strings_Join.f l0 (⟨#[]⟩ : ByteArray)).bind fun t148 => (if 1 + t148.size ≤ 9223372036854775807 then (if ((⟨#[40]⟩ : ByteArray) ++ t148).size + 1 ≤ 9223372036854775807 then (if (((⟨#[40]⟩ : ByteArray) ++ t148) ++ (⟨#[41]⟩ : ByteArray)).size + a1.size ≤ 9223372036854775807 then (if (l0.length : Int) ≤ 20 then (if a1.toList = ([86] : List UInt8) then (regletlaw02_DescWhole.j0 k l0 a1 ((((⟨#[40]⟩ : ByteArray) ++ t148) ++ (⟨#[41]⟩ : ByteArray)) ++ a1) true) else ((desc_Type.f k a1).bind fun t149 => (regletlaw02_DescWhole.j0 k l0 a1 ((((⟨#[40]⟩ : ByteArray) ++ t148) ++ (⟨#[41]⟩ : ByteArray)) ++ a1) t149))) else (regletlaw02_DescWhole.j0 k l0 a1 ((((⟨#[40]⟩ : ByteArray) ++ t148) ++ (⟨#[41]⟩ : ByteArray)) ++ a1) false)) else (none)) else (none)) else (none))) else (some false))
theorem regletlaw02_DescWhole.mono_l : ∀ k, (∀ y0 y1 y2 y3, LeO (regletlaw02_DescWhole.j0 k y0 y1 y2 y3) (regletlaw02_DescWhole.j0 (k + 1) y0 y1 y2 y3)) ∧ (∀ y0 y1 y2 y3 y4 y5 y6, LeO (regletlaw02_DescWhole.l0 k y0 y1 y2 y3 y4 y5 y6) (regletlaw02_DescWhole.l0 (k + 1) y0 y1 y2 y3 y4 y5 y6))
 | 0 => ⟨fun _ _ _ _ r h => by simp [regletlaw02_DescWhole.j0] at h, fun _ _ _ _ _ _ _ r h => by simp [regletlaw02_DescWhole.l0] at h⟩
 | k + 1 => by
  obtain ⟨ih0, ih1⟩ := regletlaw02_DescWhole.mono_l k
  refine ⟨?_, ?_⟩
  ·intro y0 y1 y2 y3
   unfold regletlaw02_DescWhole.j0
   repeat' first
   | (with_reducible exact ih0 _ _ _ _)
   | (with_reducible exact ih1 _ _ _ _ _ _ _)
   | (with_reducible exact desc_Method.mono _ _)
   | (with_reducible exact desc_Type.mono _ _)
   | (with_reducible exact regletlaw02_holds.mono _)
   | (with_reducible exact regletref02_Same.mono _ _ _)
   | (with_reducible exact LeO.refl _)
   | (with_reducible exact LeO.none _)
   | (with_reducible refine LeO.ite ?_ ?_)
   | (with_reducible refine LeO.bind ?_ (fun _ => ?_))
   | exact ih0 _ _ _ _
   | exact ih1 _ _ _ _ _ _ _
   | exact desc_Method.mono _ _
   | exact desc_Type.mono _ _
   | exact regletlaw02_holds.mono _
   | exact regletref02_Same.mono _ _ _
   | exact LeO.none _
   | refine LeO.ite ?_ ?_
   | refine LeO.bind ?_ (fun _ => ?_)
  ·intro y0 y1 y2 y3 y4 y5 y6
   unfold regletlaw02_DescWhole.l0
   repeat' first
   | (with_reducible exact ih0 _ _ _ _)
   | (with_reducible exact ih1 _ _ _ _ _ _ _)
   | (with_reducible exact desc_Method.mono _ _)
   | (with_reducible exact desc_Type.mono _ _)
   | (with_reducible exact regletlaw02_holds.mono _)
   | (with_reducible exact regletref02_Same.mono _ _ _)
   | (with_reducible exact LeO.refl _)
   | (with_reducible exact LeO.none _)
   | (with_reducible refine LeO.ite ?_ ?_)
   | (with_reducible refine LeO.bind ?_ (fun _ => ?_))
   | exact ih0 _ _ _ _
   | exact ih1 _ _ _ _ _ _ _
   | exact desc_Method.mono _ _
   | exact desc_Type.mono _ _
   | exact regletlaw02_holds.mono _
   | exact regletref02_Same.mono _ _ _
   | exact LeO.none _
   | refine LeO.ite ?_ ?_
   | refine LeO.bind ?_ (fun _ => ?_)
theorem regletlaw02_DescWhole.mono : ∀ a0 a1 k, LeO (regletlaw02_DescWhole.f k a0 a1) (regletlaw02_DescWhole.f (k + 1) a0 a1) := by
 intro a0 a1 k
 obtain ⟨ih0, ih1⟩ := regletlaw02_DescWhole.mono_l k
 unfold regletlaw02_DescWhole.f
 repeat' first
   | (with_reducible exact ih0 _ _ _ _)
   | (with_reducible exact ih1 _ _ _ _ _ _ _)
   | (with_reducible exact desc_Method.mono _ _)
   | (with_reducible exact desc_Type.mono _ _)
   | (with_reducible exact regletlaw02_holds.mono _)
   | (with_reducible exact regletref02_Same.mono _ _ _)
   | (with_reducible exact LeO.refl _)
   | (with_reducible exact LeO.none _)
   | (with_reducible refine LeO.ite ?_ ?_)
   | (with_reducible refine LeO.bind ?_ (fun _ => ?_))
   | exact ih0 _ _ _ _
   | exact ih1 _ _ _ _ _ _ _
   | exact desc_Method.mono _ _
   | exact desc_Type.mono _ _
   | exact regletlaw02_holds.mono _
   | exact regletref02_Same.mono _ _ _
   | exact LeO.none _
   | refine LeO.ite ?_ ?_
   | refine LeO.bind ?_ (fun _ => ?_)
set_option maxHeartbeats 8000000 in
set_option maxRecDepth 100000 in
theorem regletlaw02_DescWhole.calls (k : Nat) (A0 : Option Addr) (c0 : Nat) (l0 : List ByteArray) (a1 : ByteArray) (r : Bool) (w : World) (hr0 : Kd.C Kd.string w A0 l0.length l0) (hc0 : l0.length ≤ c0) (h : regletlaw02_DescWhole.f k l0 a1 = some r) :
  Calls Try.prog 5 #[.slice A0 l0.length c0, .string a1] w fun e w' => e = .returned (.bool r) ∧ Below w.heap.size w w' := by
 have HR0 := Aside0.mk hr0
 have HC0 := Aside0.mk hc0
 clear hr0 hc0
 have HB := Aside0.mk (Below.refl w.heap.size w)
 have H : ((regletlaw02_holds.f k).bind fun t147 => (if t147 = true then ((strings_Join.f l0 (⟨#[]⟩ : ByteArray)).bind fun t148 => (if 1 + t148.size ≤ 9223372036854775807 then (if ((⟨#[40]⟩ : ByteArray) ++ t148).size + 1 ≤ 9223372036854775807 then (if (((⟨#[40]⟩ : ByteArray) ++ t148) ++ (⟨#[41]⟩ : ByteArray)).size + a1.size ≤ 9223372036854775807 then (if (l0.length : Int) ≤ 20 then (if a1.toList = ([86] : List UInt8) then (regletlaw02_DescWhole.j0 k l0 a1 ((((⟨#[40]⟩ : ByteArray) ++ t148) ++ (⟨#[41]⟩ : ByteArray)) ++ a1) true) else ((desc_Type.f k a1).bind fun t149 => (regletlaw02_DescWhole.j0 k l0 a1 ((((⟨#[40]⟩ : ByteArray) ++ t148) ++ (⟨#[41]⟩ : ByteArray)) ++ a1) t149))) else (regletlaw02_DescWhole.j0 k l0 a1 ((((⟨#[40]⟩ : ByteArray) ++ t148) ++ (⟨#[41]⟩ : ByteArray)) ++ a1) false)) else (none)) else (none)) else (none))) else (some false))) = some r := h
 clear h
 replace H := Option.bind_eq_some_iff.mp H
 obtain ⟨t147, A30, H⟩ := H
 replace H : (if t147 = true then ((strings_Join.f l0 (⟨#[]⟩ : ByteArray)).bind fun t148 => (if 1 + t148.size ≤ 9223372036854775807 then (if ((⟨#[40]⟩ : ByteArray) ++ t148).size + 1 ≤ 9223372036854775807 then (if (((⟨#[40]⟩ : ByteArray) ++ t148) ++ (⟨#[41]⟩ : ByteArray)).size + a1.size ≤ 9223372036854775807 then (if (l0.length : Int) ≤ 20 then (if a1.toList = ([86] : List UInt8) then (regletlaw02_DescWhole.j0 k l0 a1 ((((⟨#[40]⟩ : ByteArray) ++ t148) ++ (⟨#[41]⟩ : ByteArray)) ++ a1) true) else ((desc_Type.f k a1).bind fun t149 => (regletlaw02_DescWhole.j0 k l0 a1 ((((⟨#[40]⟩ : ByteArray) ++ t148) ++ (⟨#[41]⟩ : ByteArray)) ++ a1) t149))) else (regletlaw02_DescWhole.j0 k l0 a1 ((((⟨#[40]⟩ : ByteArray) ++ t148) ++ (⟨#[41]⟩ : ByteArray)) ++ a1) false)) else (none)) else (none)) else (none))) else (some false)) = some r := H
 have A3 := Aside0.mk A30
 clear A30
 by_cases c4 : t147 = true
 ·subst c4
  have H1 : ((strings_Join.f l0 (⟨#[]⟩ : ByteArray)).bind fun t148 => (if 1 + t148.size ≤ 9223372036854775807 then (if ((⟨#[40]⟩ : ByteArray) ++ t148).size + 1 ≤ 9223372036854775807 then (if (((⟨#[40]⟩ : ByteArray) ++ t148) ++ (⟨#[41]⟩ : ByteArray)).size + a1.size ≤ 9223372036854775807 then (if (l0.length : Int) ≤ 20 then (if a1.toList = ([86] : List UInt8) then (regletlaw02_DescWhole.j0 k l0 a1 ((((⟨#[40]⟩ : ByteArray) ++ t148) ++ (⟨#[41]⟩ : ByteArray)) ++ a1) true) else ((desc_Type.f k a1).bind fun t149 => (regletlaw02_DescWhole.j0 k l0 a1 ((((⟨#[40]⟩ : ByteArray) ++ t148) ++ (⟨#[41]⟩ : ByteArray)) ++ a1) t149))) else (regletlaw02_DescWhole.j0 k l0 a1 ((((⟨#[40]⟩ : ByteArray) ++ t148) ++ (⟨#[41]⟩ : ByteArray)) ++ a1) false)) else (none)) else (none)) else (none))) = some r := by rw [if_pos rfl] at H; exact H
  clear H
  have H := H1
  clear H1
  replace H := Option.bind_eq_some_iff.mp H
  obtain ⟨t148, A50, H⟩ := H
  replace H : (if 1 + t148.size ≤ 9223372036854775807 then (if ((⟨#[40]⟩ : ByteArray) ++ t148).size + 1 ≤ 9223372036854775807 then (if (((⟨#[40]⟩ : ByteArray) ++ t148) ++ (⟨#[41]⟩ : ByteArray)).size + a1.size ≤ 9223372036854775807 then (if (l0.length : Int) ≤ 20 then (if a1.toList = ([86] : List UInt8) then (regletlaw02_DescWhole.j0 k l0 a1 ((((⟨#[40]⟩ : ByteArray) ++ t148) ++ (⟨#[41]⟩ : ByteArray)) ++ a1) true) else ((desc_Type.f k a1).bind fun t149 => (regletlaw02_DescWhole.j0 k l0 a1 ((((⟨#[40]⟩ : ByteArray) ++ t148) ++ (⟨#[41]⟩ : ByteArray)) ++ a1) t149))) else (regletlaw02_DescWhole.j0 k l0 a1 ((((⟨#[40]⟩ : ByteArray) ++ t148) ++ (⟨#[41]⟩ : ByteArray)) ++ a1) false)) else (none)) else (none)) else (none)) = some r := H
  have A5 := Aside0.mk A50
  clear A50
  by_cases c6 : 1 + t148.size ≤ 9223372036854775807
  ·rw [if_pos c6] at H
   have c6b0 := eq_true c6
   have c6b1 : decide (1 + t148.size ≤ 9223372036854775807) = true := decide_eq_true c6
   try have c6b2 : (9223372036854775807 < 1 + t148.size) = False := eq_false (Nat.not_lt.2 c6)
   by_cases c7 : ((⟨#[40]⟩ : ByteArray) ++ t148).size + 1 ≤ 9223372036854775807
   ·rw [if_pos c7] at H
    have c7b0 := eq_true c7
    have c7b1 : decide (((⟨#[40]⟩ : ByteArray) ++ t148).size + 1 ≤ 9223372036854775807) = true := decide_eq_true c7
    try have c7b2 : (9223372036854775807 < ((⟨#[40]⟩ : ByteArray) ++ t148).size + 1) = False := eq_false (Nat.not_lt.2 c7)
    try have c7b7 : (9223372036854775807 < 1 + t148.size + 1) = False := eq_false (by have h_ := c7; simp only [ByteArray.size_append] at h_; exact Nat.not_lt.2 h_)
    by_cases c8 : (((⟨#[40]⟩ : ByteArray) ++ t148) ++ (⟨#[41]⟩ : ByteArray)).size + a1.size ≤ 9223372036854775807
    ·rw [if_pos c8] at H
     have c8b0 := eq_true c8
     have c8b1 : decide ((((⟨#[40]⟩ : ByteArray) ++ t148) ++ (⟨#[41]⟩ : ByteArray)).size + a1.size ≤ 9223372036854775807) = true := decide_eq_true c8
     try have c8b2 : (9223372036854775807 < (((⟨#[40]⟩ : ByteArray) ++ t148) ++ (⟨#[41]⟩ : ByteArray)).size + a1.size) = False := eq_false (Nat.not_lt.2 c8)
     try have c8b7 : (9223372036854775807 < 1 + t148.size + 1 + a1.size) = False := eq_false (by have h_ := c8; simp only [ByteArray.size_append] at h_; exact Nat.not_lt.2 h_)
     have HC9 := Aside0.mk H
     clear H
     go_enter Try.func5, Try.ntmps5
     go_upto_region 4 with (first | ((with_reducible refine gate_callee (f := 9) rfl ?_); refine goesL_ (some 12) rfl rfl Try.func9 (by kernel_rfl) rfl #[] rfl (by (try simp only [List.map_toArray, List.map_cons, List.map_nil]); first | done | rfl | (simp only [List.length_drop, List.length_take]; rfl)) ?_; (with_reducible refine (regletlaw02_holds.calls k  true _ A3.out).mono ?_); rintro e w10 ⟨rfl, hb⟩; refine ⟨_, rfl, ?_⟩; have n0_ := Aside0.mk (below_step (by repeat (first | (with_reducible first | exact HB.out | apply below_alloc | apply pw_below_drewN | apply below_drew1) | exact HB.out)) hb); clear HB; have HB := n0_; clear n0_; (try clear hb); (try clear hb2); (try clear hk); (try clear hi)) | ((with_reducible refine gate_callee (f := 21) rfl ?_); refine goesL_ (some 15) rfl rfl Try.func21 (by kernel_rfl) rfl #[.slice A0 l0.length c0, .string (⟨#[]⟩ : ByteArray)] rfl (by (try simp only [List.map_toArray, List.map_cons, List.map_nil]); first | done | rfl | (simp only [List.length_drop, List.length_take]; rfl)) ?_; (with_reducible refine (strings_Join.calls _ _ l0 (⟨#[]⟩ : ByteArray) t148 _ ?side1 ?side2 A5.out).mono ?_); (case side1 => repeat (first | exact (Kd.C_below HR0.out HB.out) | (with_reducible refine Kd.C_alloc ?_ _) | (with_reducible refine Kd.C_drewN ?_ _) | (with_reducible refine Kd.C_drew ?_))); (case side2 => exact HC0.out); rintro e w11 ⟨rfl, hb⟩; refine ⟨_, rfl, ?_⟩; have n0_ := Aside0.mk (below_step (by repeat (first | (with_reducible first | exact HB.out | apply below_alloc | apply pw_below_drewN | apply below_drew1) | exact HB.out)) hb); clear HB; have HB := n0_; clear n0_; (try clear hb); (try clear hb2); (try clear hk); (try clear hi)))
     (try simp only [Act.put, List.setIfInBounds_toArray, List.set_cons_zero, List.set_cons_succ])
     go_cut [6] (fun v6 wc => ∃ (kq : Nat) (x6_8 : Bool), v6 = .bool x6_8 ∧ Aside0 (regletlaw02_DescWhole.j0 kq l0 a1 ((((⟨#[40]⟩ : ByteArray) ++ t148) ++ (⟨#[41]⟩ : ByteArray)) ++ a1) x6_8 = some r) ∧ Aside0 (kq ≤ k) ∧ Aside0 (Below w.heap.size w wc))
     case first =>
      have H := HC9.out
      clear HC9
      by_cases c12 : (l0.length : Int) ≤ 20
      ·rw [if_pos c12] at H
       have c12b0 : decide ((l0.length : Int) ≤ 20) = true := decide_eq_true c12
       have c12b1 : decide (l0.length ≤ 20) = true := decide_eq_true (by omega)
       clear c12
       (first | rw [c12b0] | (simp only [i64_w, i32_w]; rw [c12b0]) | skip)
       by_cases c13 : a1.toList = ([86] : List UInt8)
       ·rw [if_pos c13] at H
        have c13b0 : (a1.toList == ([86] : List UInt8)) = true := beq_iff_eq.mpr c13
        have c13b1 : (a1.toList != ([86] : List UInt8)) = false := bne_eq_false_iff_eq.mpr c13
        clear c13
        have H' := Aside0.mk H
        clear H
        go_wp2
        go_meet
        case rel => exact ⟨_, (true), (by first | rfl | (simp; done) | (simp [*]; done)), H', ⟨by first | omega | exact Nat.le_refl _⟩, ⟨by repeat (first | (with_reducible first | exact HB.out | apply below_alloc | apply pw_below_drewN | apply below_drew1) | exact HB.out)⟩⟩
       ·rw [if_neg c13] at H
        have c13b0 : (a1.toList == ([86] : List UInt8)) = false := beq_eq_false_iff_ne.mpr c13
        have c13b1 : (a1.toList != ([86] : List UInt8)) = true := bne_iff_ne.mpr c13
        replace H := Option.bind_eq_some_iff.mp H
        obtain ⟨t149, A140, H⟩ := H
        replace H : (regletlaw02_DescWhole.j0 k l0 a1 ((((⟨#[40]⟩ : ByteArray) ++ t148) ++ (⟨#[41]⟩ : ByteArray)) ++ a1) t149) = some r := H
        have A14 := Aside0.mk A140
        clear A140
        have H' := Aside0.mk H
        clear H
        go_wp2_with (first | (go_at_call 19; (with_reducible refine (desc_Type.calls k a1 t149 _ A14.out).mono ?_); rintro e w15 ⟨rfl, hb⟩; have n0_ := Aside0.mk (below_step (by repeat (first | (with_reducible first | exact HB.out | apply below_alloc | apply pw_below_drewN | apply below_drew1) | exact HB.out)) hb); clear HB; have HB := n0_; clear n0_; (try clear hb); (try clear hb2); (try clear hk); (try clear hi)))
        go_meet
        case rel => exact ⟨_, (t149), (by first | rfl | (simp; done) | (simp [*]; done)), H', ⟨by first | omega | exact Nat.le_refl _⟩, ⟨by repeat (first | (with_reducible first | exact HB.out | apply below_alloc | apply pw_below_drewN | apply below_drew1) | exact HB.out)⟩⟩
      ·rw [if_neg c12] at H
       have c12b0 : decide ((l0.length : Int) ≤ 20) = false := decide_eq_false c12
       have c12b1 : decide (l0.length ≤ 20) = false := decide_eq_false (by omega)
       clear c12
       (first | rw [c12b0] | (simp only [i64_w, i32_w]; rw [c12b0]) | skip)
       have H' := Aside0.mk H
       clear H
       go_wp2
       go_meet
       case rel => exact ⟨_, (false), (by first | rfl | (simp; done) | (simp [*]; done)), H', ⟨by first | omega | exact Nat.le_refl _⟩, ⟨by repeat (first | (with_reducible first | exact HB.out | apply below_alloc | apply pw_below_drewN | apply below_drew1) | exact HB.out)⟩⟩
     case rest =>
      clear HC9
      try clear c1
      try clear c2
      try clear p2
      try clear c4
      try clear c5
      try clear c6
      try clear c6b0
      try clear c6b1
      try clear c6b2
      try clear c7
      try clear c7b0
      try clear c7b1
      try clear c7b2
      try clear c8
      try clear c8b0
      try clear c8b1
      try clear c8b2
      try clear c9
      try clear c12
      try clear c12b0
      try clear c12b1
      try clear c13
      try clear c13b0
      try clear c13b1
      obtain ⟨kq, x6_8, rfl, HA, HJ8, HB⟩ := hcut
      cases kq with
      | zero => exact absurd HA.out (by simp [regletlaw02_DescWhole.j0])
      | succ kj8 =>
       have H := HA.out
       clear HA
       simp only [regletlaw02_DescWhole.j0] at H
       have H' := Aside0.mk H
       clear H
       go_wp2
       go_loopg [6, 33] kj8 (fun kq v6 v33 w' => ∃ (x6_2 : Bool) (x33_2 : Int), v6 = .bool x6_2 ∧ v33 = .int .i64 x33_2 ∧ Aside0 (regletlaw02_DescWhole.l0 kq l0 a1 ((((⟨#[40]⟩ : ByteArray) ++ t148) ++ (⟨#[41]⟩ : ByteArray)) ++ a1) x6_2 l0 (l0.length : Int) x33_2 = some r) ∧ Aside0 (kq ≤ kj8) ∧ Aside0 (Below w.heap.size w w'))
       case atStart => exact ⟨(x6_8), (0), (by first | rfl | (simp; done) | (simp [*]; done)), (by first | rfl | (simp; done) | (simp [*]; done)), H', ⟨Nat.le_refl _⟩, ⟨by repeat (first | (with_reducible first | exact HB.out | apply below_alloc | apply pw_below_drewN | apply below_drew1) | exact HB.out)⟩⟩
       case round =>
        clear H'
        try clear c1
        try clear c2
        try clear p2
        try clear c4
        try clear c5
        try clear c6
        try clear c6b0
        try clear c6b1
        try clear c6b2
        try clear c7
        try clear c7b0
        try clear c7b1
        try clear c7b2
        try clear c8
        try clear c8b0
        try clear c8b1
        try clear c8b2
        try clear c9
        try clear c12
        try clear c12b0
        try clear c12b1
        try clear c13
        try clear c13b0
        try clear c13b1
        try clear p2
        obtain ⟨x6_2, x33_2, rfl, rfl, HA, HK2, HB⟩ := hrel
        cases gk with
        | zero => exact absurd HA.out (by simp [regletlaw02_DescWhole.l0])
        | succ k2 =>
         have H := HA.out
         clear HA
         simp only [regletlaw02_DescWhole.l0] at H
         by_cases c16 : x33_2 < (l0.length : Int)
         ·rw [if_pos c16] at H
          have c16b0 : decide (x33_2 < (l0.length : Int)) = true := decide_eq_true c16
          clear c16
          by_cases c17 : 0 ≤ x33_2
          ·rw [if_pos c17] at H
           have c17b0 : decide (0 ≤ x33_2) = true := decide_eq_true c17
           clear c17
           by_cases c18 : x33_2 < (l0.length : Int)
           ·rw [if_pos c18] at H
            have c18b0 : decide (x33_2 < (l0.length : Int)) = true := decide_eq_true c18
            clear c18
            by_cases c19 : x6_2 = true
            ·subst c19
             have H1 : ((desc_Type.f k2 (rdOf ByteArray.empty l0 x33_2)).bind fun t151 => (regletlaw02_DescWhole.l0 k2 l0 a1 ((((⟨#[40]⟩ : ByteArray) ++ t148) ++ (⟨#[41]⟩ : ByteArray)) ++ a1) t151 l0 (l0.length : Int) (wrap64 (x33_2 + 1)))) = some r := by rw [if_pos rfl] at H; exact H
             clear H
             have H := H1
             clear H1
             replace H := Option.bind_eq_some_iff.mp H
             obtain ⟨t151, A200, H⟩ := H
             replace H : (regletlaw02_DescWhole.l0 k2 l0 a1 ((((⟨#[40]⟩ : ByteArray) ++ t148) ++ (⟨#[41]⟩ : ByteArray)) ++ a1) t151 l0 (l0.length : Int) (wrap64 (x33_2 + 1))) = some r := H
             have A20 := Aside0.mk A200
             clear A200
             have H' := Aside0.mk H
             clear H
             have p150 : 0 ≤ (x33_2 : Int) := of_decide_eq_true (by first | (with_reducible assumption) | assumption)
             have q150 : x33_2 < (l0.length : Int) := of_decide_eq_true (by first | (with_reducible assumption) | assumption)
             obtain ⟨ad150, e150, hx150_0⟩ := Kd.at_string HR0.out x33_2 p150 q150
             cases e150
             replace hx150_0 := (HB.out.cell (World.block_lt_of_cell? w _ hx150_0)).trans hx150_0
             replace p150 := eq_true p150
             replace q150 := eq_true q150
             go_wp2_with (first | (go_at_call 19; (with_reducible refine (desc_Type.calls k2 (rdOf ByteArray.empty l0 x33_2) t151 _ A20.out).mono ?_); rintro e w21 ⟨rfl, hb⟩; have n0_ := Aside0.mk (below_step (by repeat (first | (with_reducible first | exact HB.out | apply below_alloc | apply pw_below_drewN | apply below_drew1) | exact HB.out)) hb); clear HB; have HB := n0_; clear n0_; (try clear hb); (try clear hb2); (try clear hk); (try clear hi)))
             go_roundg k2
             case measure => have := HJ8.out; have := HK2.out; omega
             case rel => exact ⟨(t151), (wrap64 (x33_2 + 1)), (by first | rfl | (simp; done) | (simp [*]; done)), (by first | rfl | (simp; done) | (simp [*]; done)), H', ⟨by have := HJ8.out; have := HK2.out; omega⟩, ⟨by repeat (first | (with_reducible first | exact HB.out | apply below_alloc | apply pw_below_drewN | apply below_drew1) | exact HB.out)⟩⟩
            ·replace c19 := Bool.eq_false_iff.mpr c19
             subst c19
             have H1 : (regletlaw02_DescWhole.l0 k2 l0 a1 ((((⟨#[40]⟩ : ByteArray) ++ t148) ++ (⟨#[41]⟩ : ByteArray)) ++ a1) false l0 (l0.length : Int) (wrap64 (x33_2 + 1))) = some r := by rw [if_neg (show ¬ (false = true) by decide)] at H; exact H
             clear H
             have H := H1
             clear H1
             have H' := Aside0.mk H
             clear H
             have p150 : 0 ≤ (x33_2 : Int) := of_decide_eq_true (by first | (with_reducible assumption) | assumption)
             have q150 : x33_2 < (l0.length : Int) := of_decide_eq_true (by first | (with_reducible assumption) | assumption)
             obtain ⟨ad150, e150, hx150_0⟩ := Kd.at_string HR0.out x33_2 p150 q150
             cases e150
             replace hx150_0 := (HB.out.cell (World.block_lt_of_cell? w _ hx150_0)).trans hx150_0
             replace p150 := eq_true p150
             replace q150 := eq_true q150
             go_wp2
             go_roundg k2
             case measure => have := HJ8.out; have := HK2.out; omega
             case rel => exact ⟨(false), (wrap64 (x33_2 + 1)), (by first | rfl | (simp; done) | (simp [*]; done)), (by first | rfl | (simp; done) | (simp [*]; done)), H', ⟨by have := HJ8.out; have := HK2.out; omega⟩, ⟨by repeat (first | (with_reducible first | exact HB.out | apply below_alloc | apply pw_below_drewN | apply below_drew1) | exact HB.out)⟩⟩
           ·rw [if_neg c18] at H
            exact absurd H (by simp)
          ·rw [if_neg c17] at H
           exact absurd H (by simp)
         ·rw [if_neg c16] at H
          have c16b0 : decide (x33_2 < (l0.length : Int)) = false := decide_eq_false c16
          clear c16
          replace H := Option.bind_eq_some_iff.mp H
          obtain ⟨⟨t152, t153, t154⟩, A220, H⟩ := H
          replace H : (if t154 = 0 then ((strings_Join.f t152 (⟨#[]⟩ : ByteArray)).bind fun t157 => (if 1 + t157.size ≤ 9223372036854775807 then (if ((⟨#[40]⟩ : ByteArray) ++ t157).size + 1 ≤ 9223372036854775807 then (if (((⟨#[40]⟩ : ByteArray) ++ t157) ++ (⟨#[41]⟩ : ByteArray)).size + t153.size ≤ 9223372036854775807 then (if ((((⟨#[40]⟩ : ByteArray) ++ t157) ++ (⟨#[41]⟩ : ByteArray)) ++ t153).toList = ((((⟨#[40]⟩ : ByteArray) ++ t148) ++ (⟨#[41]⟩ : ByteArray)) ++ a1).toList then (if x6_2 = true then (if t153.toList = a1.toList then ((regletref02_Same.f k2 l0 t152).bind fun t158 => (some t158)) else (some false)) else (some true)) else (some false)) else (none)) else (none)) else (none))) else (if x6_2 = true then (some false) else (some true))) = some r := H
          have A22 := Aside0.mk A220
          clear A220
          by_cases c23 : t154 = 0
          ·rw [if_pos c23] at H
           have c23b0 : (t154 == 0) = true := beq_iff_eq.mpr c23
           have c23b1 : (t154 != 0) = false := bne_eq_false_iff_eq.mpr c23
           clear c23
           replace H := Option.bind_eq_some_iff.mp H
           obtain ⟨t157, A240, H⟩ := H
           replace H : (if 1 + t157.size ≤ 9223372036854775807 then (if ((⟨#[40]⟩ : ByteArray) ++ t157).size + 1 ≤ 9223372036854775807 then (if (((⟨#[40]⟩ : ByteArray) ++ t157) ++ (⟨#[41]⟩ : ByteArray)).size + t153.size ≤ 9223372036854775807 then (if ((((⟨#[40]⟩ : ByteArray) ++ t157) ++ (⟨#[41]⟩ : ByteArray)) ++ t153).toList = ((((⟨#[40]⟩ : ByteArray) ++ t148) ++ (⟨#[41]⟩ : ByteArray)) ++ a1).toList then (if x6_2 = true then (if t153.toList = a1.toList then ((regletref02_Same.f k2 l0 t152).bind fun t158 => (some t158)) else (some false)) else (some true)) else (some false)) else (none)) else (none)) else (none)) = some r := H
           have A24 := Aside0.mk A240
           clear A240
           by_cases c25 : 1 + t157.size ≤ 9223372036854775807
           ·rw [if_pos c25] at H
            have c25b0 := eq_true c25
            have c25b1 : decide (1 + t157.size ≤ 9223372036854775807) = true := decide_eq_true c25
            try have c25b2 : (9223372036854775807 < 1 + t157.size) = False := eq_false (Nat.not_lt.2 c25)
            by_cases c26 : ((⟨#[40]⟩ : ByteArray) ++ t157).size + 1 ≤ 9223372036854775807
            ·rw [if_pos c26] at H
             have c26b0 := eq_true c26
             have c26b1 : decide (((⟨#[40]⟩ : ByteArray) ++ t157).size + 1 ≤ 9223372036854775807) = true := decide_eq_true c26
             try have c26b2 : (9223372036854775807 < ((⟨#[40]⟩ : ByteArray) ++ t157).size + 1) = False := eq_false (Nat.not_lt.2 c26)
             try have c26b7 : (9223372036854775807 < 1 + t157.size + 1) = False := eq_false (by have h_ := c26; simp only [ByteArray.size_append] at h_; exact Nat.not_lt.2 h_)
             by_cases c27 : (((⟨#[40]⟩ : ByteArray) ++ t157) ++ (⟨#[41]⟩ : ByteArray)).size + t153.size ≤ 9223372036854775807
             ·rw [if_pos c27] at H
              have c27b0 := eq_true c27
              have c27b1 : decide ((((⟨#[40]⟩ : ByteArray) ++ t157) ++ (⟨#[41]⟩ : ByteArray)).size + t153.size ≤ 9223372036854775807) = true := decide_eq_true c27
              try have c27b2 : (9223372036854775807 < (((⟨#[40]⟩ : ByteArray) ++ t157) ++ (⟨#[41]⟩ : ByteArray)).size + t153.size) = False := eq_false (Nat.not_lt.2 c27)
              try have c27b7 : (9223372036854775807 < 1 + t157.size + 1 + t153.size) = False := eq_false (by have h_ := c27; simp only [ByteArray.size_append] at h_; exact Nat.not_lt.2 h_)
              by_cases c28 : ((((⟨#[40]⟩ : ByteArray) ++ t157) ++ (⟨#[41]⟩ : ByteArray)) ++ t153).toList = ((((⟨#[40]⟩ : ByteArray) ++ t148) ++ (⟨#[41]⟩ : ByteArray)) ++ a1).toList
              ·rw [if_pos c28] at H
               have c28b0 : (((((⟨#[40]⟩ : ByteArray) ++ t157) ++ (⟨#[41]⟩ : ByteArray)) ++ t153).toList == ((((⟨#[40]⟩ : ByteArray) ++ t148) ++ (⟨#[41]⟩ : ByteArray)) ++ a1).toList) = true := beq_iff_eq.mpr c28
               have c28b1 : (((((⟨#[40]⟩ : ByteArray) ++ t157) ++ (⟨#[41]⟩ : ByteArray)) ++ t153).toList != ((((⟨#[40]⟩ : ByteArray) ++ t148) ++ (⟨#[41]⟩ : ByteArray)) ++ a1).toList) = false := bne_eq_false_iff_eq.mpr c28
               clear c28
               by_cases c29 : x6_2 = true
               ·subst c29
                have H1 : (if t153.toList = a1.toList then ((regletref02_Same.f k2 l0 t152).bind fun t158 => (some t158)) else (some false)) = some r := by rw [if_pos rfl] at H; exact H
                clear H
                have H := H1
                clear H1
                by_cases c30 : t153.toList = a1.toList
                ·rw [if_pos c30] at H
                 have c30b0 : (t153.toList == a1.toList) = true := beq_iff_eq.mpr c30
                 have c30b1 : (t153.toList != a1.toList) = false := bne_eq_false_iff_eq.mpr c30
                 clear c30
                 replace H := Option.bind_eq_some_iff.mp H
                 obtain ⟨t158, A310, H⟩ := H
                 replace H : (some t158) = some r := H
                 have A31 := Aside0.mk A310
                 clear A310
                 obtain rfl := Option.some.inj H
                 go_wp2_with (first | ((with_reducible refine gate_callee (f := 22) rfl ?_); refine goesL_ (some 45) rfl rfl Try.func22 (by kernel_rfl) rfl #[.string ((((⟨#[40]⟩ : ByteArray) ++ t148) ++ (⟨#[41]⟩ : ByteArray)) ++ a1)] rfl (by (try simp only [List.map_toArray, List.map_cons, List.map_nil]); first | done | rfl | (simp only [List.length_drop, List.length_take]; rfl)) ?_; (with_reducible refine (desc_Method.calls k2 ((((⟨#[40]⟩ : ByteArray) ++ t148) ++ (⟨#[41]⟩ : ByteArray)) ++ a1) t152 t153 t154 _ A22.out).mono ?_); rintro e w32 ⟨v155, rfl, ho0, hb⟩; refine ⟨_, rfl, ?_⟩; have n0_ := Aside0.mk (Kd.R_lower ho0 (below_size (by repeat (first | (with_reducible first | exact HB.out | apply below_alloc | apply pw_below_drewN | apply below_drew1) | exact HB.out)))); have n1_ := Aside0.mk (below_step (by repeat (first | (with_reducible first | exact HB.out | apply below_alloc | apply pw_below_drewN | apply below_drew1) | exact HB.out)) hb); clear HB; have HO156 := n0_; have HB := n1_; clear n0_ n1_; (try clear hb); (try clear hb2); (try clear hk); (try clear hi); (try clear ho0); obtain ⟨Ao33, co33, eo33⟩ := Kd.R_slice HO156.out; subst eo33) | (go_at_call 21; (with_reducible refine (strings_Join.calls _ _ t152 (⟨#[]⟩ : ByteArray) t157 _ ?side1 ?side2 A24.out).mono ?_); (case side1 => repeat (first | exact (Kd.R_reads' HO156.out).2.2 | (with_reducible refine Kd.C_alloc ?_ _) | (with_reducible refine Kd.C_drewN ?_ _) | (with_reducible refine Kd.C_drew ?_))); (case side2 => exact (Kd.R_reads' HO156.out).2.1); rintro e w34 ⟨rfl, hb⟩; have n0_ := Aside0.mk (Kd.R_below (by (with_reducible repeat (first | apply Kd.R_alloc | apply Kd.R_drewN | apply Kd.R_drew)); exact HO156.out) hb); have n1_ := Aside0.mk (below_step (by repeat (first | (with_reducible first | exact HB.out | apply below_alloc | apply pw_below_drewN | apply below_drew1) | exact HB.out)) hb); clear HO156; clear HB; have HO156 := n0_; have HB := n1_; clear n0_ n1_; (try clear hb); (try clear hb2); (try clear hk); (try clear hi)) | (go_at_call 23; (with_reducible refine (regletref02_Same.calls k2 _ _ l0 _ _ t152 t158 _ ?side1 ?side2 ?side3 ?side4 A31.out).mono ?_); (case side1 => repeat (first | exact (Kd.C_below HR0.out HB.out) | (with_reducible refine Kd.C_alloc ?_ _) | (with_reducible refine Kd.C_drewN ?_ _) | (with_reducible refine Kd.C_drew ?_))); (case side2 => exact HC0.out); (case side3 => repeat (first | exact (Kd.R_reads' HO156.out).2.2 | (with_reducible refine Kd.C_alloc ?_ _) | (with_reducible refine Kd.C_drewN ?_ _) | (with_reducible refine Kd.C_drew ?_))); (case side4 => exact (Kd.R_reads' HO156.out).2.1); rintro e w' ⟨rfl, ⟨nd, rfl⟩⟩))
                 go_ret
                 exact ⟨by first | rfl | (simp [errW_none, errW_some] <;> rfl) | (simp [*, errW_none, errW_some] <;> rfl), by repeat (first | (with_reducible first | exact HB.out | apply below_alloc | apply pw_below_drewN | apply below_drew1) | exact HB.out)⟩
                ·rw [if_neg c30] at H
                 have c30b0 : (t153.toList == a1.toList) = false := beq_eq_false_iff_ne.mpr c30
                 have c30b1 : (t153.toList != a1.toList) = true := bne_iff_ne.mpr c30
                 obtain rfl := Option.some.inj H
                 go_wp2_with (first | ((with_reducible refine gate_callee (f := 22) rfl ?_); refine goesL_ (some 45) rfl rfl Try.func22 (by kernel_rfl) rfl #[.string ((((⟨#[40]⟩ : ByteArray) ++ t148) ++ (⟨#[41]⟩ : ByteArray)) ++ a1)] rfl (by (try simp only [List.map_toArray, List.map_cons, List.map_nil]); first | done | rfl | (simp only [List.length_drop, List.length_take]; rfl)) ?_; (with_reducible refine (desc_Method.calls k2 ((((⟨#[40]⟩ : ByteArray) ++ t148) ++ (⟨#[41]⟩ : ByteArray)) ++ a1) t152 t153 t154 _ A22.out).mono ?_); rintro e w35 ⟨v155, rfl, ho0, hb⟩; refine ⟨_, rfl, ?_⟩; have n0_ := Aside0.mk (Kd.R_lower ho0 (below_size (by repeat (first | (with_reducible first | exact HB.out | apply below_alloc | apply pw_below_drewN | apply below_drew1) | exact HB.out)))); have n1_ := Aside0.mk (below_step (by repeat (first | (with_reducible first | exact HB.out | apply below_alloc | apply pw_below_drewN | apply below_drew1) | exact HB.out)) hb); clear HB; have HO156 := n0_; have HB := n1_; clear n0_ n1_; (try clear hb); (try clear hb2); (try clear hk); (try clear hi); (try clear ho0); obtain ⟨Ao36, co36, eo36⟩ := Kd.R_slice HO156.out; subst eo36) | (go_at_call 21; (with_reducible refine (strings_Join.calls _ _ t152 (⟨#[]⟩ : ByteArray) t157 _ ?side1 ?side2 A24.out).mono ?_); (case side1 => repeat (first | exact (Kd.R_reads' HO156.out).2.2 | (with_reducible refine Kd.C_alloc ?_ _) | (with_reducible refine Kd.C_drewN ?_ _) | (with_reducible refine Kd.C_drew ?_))); (case side2 => exact (Kd.R_reads' HO156.out).2.1); rintro e w37 ⟨rfl, hb⟩; have n0_ := Aside0.mk (Kd.R_below (by (with_reducible repeat (first | apply Kd.R_alloc | apply Kd.R_drewN | apply Kd.R_drew)); exact HO156.out) hb); have n1_ := Aside0.mk (below_step (by repeat (first | (with_reducible first | exact HB.out | apply below_alloc | apply pw_below_drewN | apply below_drew1) | exact HB.out)) hb); clear HO156; clear HB; have HO156 := n0_; have HB := n1_; clear n0_ n1_; (try clear hb); (try clear hb2); (try clear hk); (try clear hi)))
                 go_ret
                 exact ⟨by first | rfl | (simp [errW_none, errW_some] <;> rfl) | (simp [*, errW_none, errW_some] <;> rfl), by repeat (first | (with_reducible first | exact HB.out | apply below_alloc | apply pw_below_drewN | apply below_drew1) | exact HB.out)⟩
               ·replace c29 := Bool.eq_false_iff.mpr c29
                subst c29
                have H1 : (some true) = some r := by rw [if_neg (show ¬ (false = true) by decide)] at H; exact H
                clear H
                have H := H1
                clear H1
                obtain rfl := Option.some.inj H
                go_wp2_with (first | ((with_reducible refine gate_callee (f := 22) rfl ?_); refine goesL_ (some 45) rfl rfl Try.func22 (by kernel_rfl) rfl #[.string ((((⟨#[40]⟩ : ByteArray) ++ t148) ++ (⟨#[41]⟩ : ByteArray)) ++ a1)] rfl (by (try simp only [List.map_toArray, List.map_cons, List.map_nil]); first | done | rfl | (simp only [List.length_drop, List.length_take]; rfl)) ?_; (with_reducible refine (desc_Method.calls k2 ((((⟨#[40]⟩ : ByteArray) ++ t148) ++ (⟨#[41]⟩ : ByteArray)) ++ a1) t152 t153 t154 _ A22.out).mono ?_); rintro e w38 ⟨v155, rfl, ho0, hb⟩; refine ⟨_, rfl, ?_⟩; have n0_ := Aside0.mk (Kd.R_lower ho0 (below_size (by repeat (first | (with_reducible first | exact HB.out | apply below_alloc | apply pw_below_drewN | apply below_drew1) | exact HB.out)))); have n1_ := Aside0.mk (below_step (by repeat (first | (with_reducible first | exact HB.out | apply below_alloc | apply pw_below_drewN | apply below_drew1) | exact HB.out)) hb); clear HB; have HO156 := n0_; have HB := n1_; clear n0_ n1_; (try clear hb); (try clear hb2); (try clear hk); (try clear hi); (try clear ho0); obtain ⟨Ao39, co39, eo39⟩ := Kd.R_slice HO156.out; subst eo39) | (go_at_call 21; (with_reducible refine (strings_Join.calls _ _ t152 (⟨#[]⟩ : ByteArray) t157 _ ?side1 ?side2 A24.out).mono ?_); (case side1 => repeat (first | exact (Kd.R_reads' HO156.out).2.2 | (with_reducible refine Kd.C_alloc ?_ _) | (with_reducible refine Kd.C_drewN ?_ _) | (with_reducible refine Kd.C_drew ?_))); (case side2 => exact (Kd.R_reads' HO156.out).2.1); rintro e w40 ⟨rfl, hb⟩; have n0_ := Aside0.mk (Kd.R_below (by (with_reducible repeat (first | apply Kd.R_alloc | apply Kd.R_drewN | apply Kd.R_drew)); exact HO156.out) hb); have n1_ := Aside0.mk (below_step (by repeat (first | (with_reducible first | exact HB.out | apply below_alloc | apply pw_below_drewN | apply below_drew1) | exact HB.out)) hb); clear HO156; clear HB; have HO156 := n0_; have HB := n1_; clear n0_ n1_; (try clear hb); (try clear hb2); (try clear hk); (try clear hi)))
                go_ret
                exact ⟨by first | rfl | (simp [errW_none, errW_some] <;> rfl) | (simp [*, errW_none, errW_some] <;> rfl), by repeat (first | (with_reducible first | exact HB.out | apply below_alloc | apply pw_below_drewN | apply below_drew1) | exact HB.out)⟩
              ·rw [if_neg c28] at H
               have c28b0 : (((((⟨#[40]⟩ : ByteArray) ++ t157) ++ (⟨#[41]⟩ : ByteArray)) ++ t153).toList == ((((⟨#[40]⟩ : ByteArray) ++ t148) ++ (⟨#[41]⟩ : ByteArray)) ++ a1).toList) = false := beq_eq_false_iff_ne.mpr c28
               have c28b1 : (((((⟨#[40]⟩ : ByteArray) ++ t157) ++ (⟨#[41]⟩ : ByteArray)) ++ t153).toList != ((((⟨#[40]⟩ : ByteArray) ++ t148) ++ (⟨#[41]⟩ : ByteArray)) ++ a1).toList) = true := bne_iff_ne.mpr c28
               obtain rfl := Option.some.inj H
               go_wp2_with (first | ((with_reducible refine gate_callee (f := 22) rfl ?_); refine goesL_ (some 45) rfl rfl Try.func22 (by kernel_rfl) rfl #[.string ((((⟨#[40]⟩ : ByteArray) ++ t148) ++ (⟨#[41]⟩ : ByteArray)) ++ a1)] rfl (by (try simp only [List.map_toArray, List.map_cons, List.map_nil]); first | done | rfl | (simp only [List.length_drop, List.length_take]; rfl)) ?_; (with_reducible refine (desc_Method.calls k2 ((((⟨#[40]⟩ : ByteArray) ++ t148) ++ (⟨#[41]⟩ : ByteArray)) ++ a1) t152 t153 t154 _ A22.out).mono ?_); rintro e w41 ⟨v155, rfl, ho0, hb⟩; refine ⟨_, rfl, ?_⟩; have n0_ := Aside0.mk (Kd.R_lower ho0 (below_size (by repeat (first | (with_reducible first | exact HB.out | apply below_alloc | apply pw_below_drewN | apply below_drew1) | exact HB.out)))); have n1_ := Aside0.mk (below_step (by repeat (first | (with_reducible first | exact HB.out | apply below_alloc | apply pw_below_drewN | apply below_drew1) | exact HB.out)) hb); clear HB; have HO156 := n0_; have HB := n1_; clear n0_ n1_; (try clear hb); (try clear hb2); (try clear hk); (try clear hi); (try clear ho0); obtain ⟨Ao42, co42, eo42⟩ := Kd.R_slice HO156.out; subst eo42) | (go_at_call 21; (with_reducible refine (strings_Join.calls _ _ t152 (⟨#[]⟩ : ByteArray) t157 _ ?side1 ?side2 A24.out).mono ?_); (case side1 => repeat (first | exact (Kd.R_reads' HO156.out).2.2 | (with_reducible refine Kd.C_alloc ?_ _) | (with_reducible refine Kd.C_drewN ?_ _) | (with_reducible refine Kd.C_drew ?_))); (case side2 => exact (Kd.R_reads' HO156.out).2.1); rintro e w43 ⟨rfl, hb⟩; have n0_ := Aside0.mk (Kd.R_below (by (with_reducible repeat (first | apply Kd.R_alloc | apply Kd.R_drewN | apply Kd.R_drew)); exact HO156.out) hb); have n1_ := Aside0.mk (below_step (by repeat (first | (with_reducible first | exact HB.out | apply below_alloc | apply pw_below_drewN | apply below_drew1) | exact HB.out)) hb); clear HO156; clear HB; have HO156 := n0_; have HB := n1_; clear n0_ n1_; (try clear hb); (try clear hb2); (try clear hk); (try clear hi)))
               go_ret
               exact ⟨by first | rfl | (simp [errW_none, errW_some] <;> rfl) | (simp [*, errW_none, errW_some] <;> rfl), by repeat (first | (with_reducible first | exact HB.out | apply below_alloc | apply pw_below_drewN | apply below_drew1) | exact HB.out)⟩
             ·rw [if_neg c27] at H
              exact absurd H (by simp)
            ·rw [if_neg c26] at H
             exact absurd H (by simp)
           ·rw [if_neg c25] at H
            exact absurd H (by simp)
          ·rw [if_neg c23] at H
           have c23b0 : (t154 == 0) = false := beq_eq_false_iff_ne.mpr c23
           have c23b1 : (t154 != 0) = true := bne_iff_ne.mpr c23
           by_cases c44 : x6_2 = true
           ·subst c44
            have H1 : (some false) = some r := by rw [if_pos rfl] at H; exact H
            clear H
            have H := H1
            clear H1
            obtain rfl := Option.some.inj H
            go_wp2_with (first | ((with_reducible refine gate_callee (f := 22) rfl ?_); refine goesL_ (some 45) rfl rfl Try.func22 (by kernel_rfl) rfl #[.string ((((⟨#[40]⟩ : ByteArray) ++ t148) ++ (⟨#[41]⟩ : ByteArray)) ++ a1)] rfl (by (try simp only [List.map_toArray, List.map_cons, List.map_nil]); first | done | rfl | (simp only [List.length_drop, List.length_take]; rfl)) ?_; (with_reducible refine (desc_Method.calls k2 ((((⟨#[40]⟩ : ByteArray) ++ t148) ++ (⟨#[41]⟩ : ByteArray)) ++ a1) t152 t153 t154 _ A22.out).mono ?_); rintro e w45 ⟨v155, rfl, ho0, hb⟩; refine ⟨_, rfl, ?_⟩; have n0_ := Aside0.mk (Kd.R_lower ho0 (below_size (by repeat (first | (with_reducible first | exact HB.out | apply below_alloc | apply pw_below_drewN | apply below_drew1) | exact HB.out)))); have n1_ := Aside0.mk (below_step (by repeat (first | (with_reducible first | exact HB.out | apply below_alloc | apply pw_below_drewN | apply below_drew1) | exact HB.out)) hb); clear HB; have HO156 := n0_; have HB := n1_; clear n0_ n1_; (try clear hb); (try clear hb2); (try clear hk); (try clear hi); (try clear ho0)))
            go_ret
            exact ⟨by first | rfl | (simp [errW_none, errW_some] <;> rfl) | (simp [*, errW_none, errW_some] <;> rfl), by repeat (first | (with_reducible first | exact HB.out | apply below_alloc | apply pw_below_drewN | apply below_drew1) | exact HB.out)⟩
           ·replace c44 := Bool.eq_false_iff.mpr c44
            subst c44
            have H1 : (some true) = some r := by rw [if_neg (show ¬ (false = true) by decide)] at H; exact H
            clear H
            have H := H1
            clear H1
            obtain rfl := Option.some.inj H
            go_wp2_with (first | ((with_reducible refine gate_callee (f := 22) rfl ?_); refine goesL_ (some 45) rfl rfl Try.func22 (by kernel_rfl) rfl #[.string ((((⟨#[40]⟩ : ByteArray) ++ t148) ++ (⟨#[41]⟩ : ByteArray)) ++ a1)] rfl (by (try simp only [List.map_toArray, List.map_cons, List.map_nil]); first | done | rfl | (simp only [List.length_drop, List.length_take]; rfl)) ?_; (with_reducible refine (desc_Method.calls k2 ((((⟨#[40]⟩ : ByteArray) ++ t148) ++ (⟨#[41]⟩ : ByteArray)) ++ a1) t152 t153 t154 _ A22.out).mono ?_); rintro e w46 ⟨v155, rfl, ho0, hb⟩; refine ⟨_, rfl, ?_⟩; have n0_ := Aside0.mk (Kd.R_lower ho0 (below_size (by repeat (first | (with_reducible first | exact HB.out | apply below_alloc | apply pw_below_drewN | apply below_drew1) | exact HB.out)))); have n1_ := Aside0.mk (below_step (by repeat (first | (with_reducible first | exact HB.out | apply below_alloc | apply pw_below_drewN | apply below_drew1) | exact HB.out)) hb); clear HB; have HO156 := n0_; have HB := n1_; clear n0_ n1_; (try clear hb); (try clear hb2); (try clear hk); (try clear hi); (try clear ho0)))
            go_ret
            exact ⟨by first | rfl | (simp [errW_none, errW_some] <;> rfl) | (simp [*, errW_none, errW_some] <;> rfl), by repeat (first | (with_reducible first | exact HB.out | apply below_alloc | apply pw_below_drewN | apply below_drew1) | exact HB.out)⟩
    ·rw [if_neg c8] at H
     exact absurd H (by simp)
   ·rw [if_neg c7] at H
    exact absurd H (by simp)
  ·rw [if_neg c6] at H
   exact absurd H (by simp)
 ·replace c4 := Bool.eq_false_iff.mpr c4
  subst c4
  have H1 : (some false) = some r := by rw [if_neg (show ¬ (false = true) by decide)] at H; exact H
  clear H
  have H := H1
  clear H1
  obtain rfl := Option.some.inj H
  go_enter Try.func5, Try.ntmps5
  go_wp2_with (first | ((with_reducible refine gate_callee (f := 9) rfl ?_); refine goesL_ (some 12) rfl rfl Try.func9 (by kernel_rfl) rfl #[] rfl (by (try simp only [List.map_toArray, List.map_cons, List.map_nil]); first | done | rfl | (simp only [List.length_drop, List.length_take]; rfl)) ?_; (with_reducible refine (regletlaw02_holds.calls k  false _ A3.out).mono ?_); rintro e w47 ⟨rfl, hb⟩; refine ⟨_, rfl, ?_⟩; have n0_ := Aside0.mk (below_step (by repeat (first | (with_reducible first | exact HB.out | apply below_alloc | apply pw_below_drewN | apply below_drew1) | exact HB.out)) hb); clear HB; have HB := n0_; clear n0_; (try clear hb); (try clear hb2); (try clear hk); (try clear hi)))
  go_ret
  exact ⟨by first | rfl | (simp [errW_none, errW_some] <;> rfl) | (simp [*, errW_none, errW_some] <;> rfl), by repeat (first | (with_reducible first | exact HB.out | apply below_alloc | apply pw_below_drewN | apply below_drew1) | exact HB.out)⟩

/-! ### strings_Contains: function 33 -/
def strings_Contains.f (a0 : ByteArray) (a1 : ByteArray) : Option (Bool) := if a1.size = 1 then some (decide (0 ≤ Lib.indexByte a0.data.toList (a1.data.toList.getD 0 0))) else none
theorem strings_Contains.calls (a0 : ByteArray) (a1 : ByteArray) (r : Bool) (w : World) (h : strings_Contains.f a0 a1 = some r) :
  Calls Try.prog 33 #[.string a0, .string a1] w fun e w' => e = .returned (.bool r) ∧ Drawn0 w w' := by
 unfold strings_Contains.f at h
 by_cases hm : a1.size = 1
 ·rw [if_pos hm] at h
  obtain rfl := Option.some.inj h
  obtain ⟨⟨l⟩⟩ := a1
  match l, hm with
  | [c], _ => exact (Go.Proofs.Try.strings_Contains_one a0 c w).mono fun e w' ⟨he, hw⟩ => ⟨he, hw ▸ Drawn0.refl w⟩
 ·rw [if_neg hm] at h; exact absurd h (by simp)

/-! ### regletref02_Name: function 24 -/
mutual
def regletref02_Name.j0 : Nat → ByteArray → ByteArray → Option (Bool)
 | 0, _, _ => none
 | k + 1, x0, x5 => regletref02_Name.l0 k x0 x5 0
def regletref02_Name.l0 : Nat → ByteArray → ByteArray → Int → Option (Bool)
 | 0, _, _, _ => none
 | k + 1, x0, x5, x6 => if x6 < (x0.size : Int) then (if 0 ≤ x6 then (if x6 ≤ (wrap64 (x6 + 1)) then (if (wrap64 (x6 + 1)) ≤ (x0.size : Int) then ((strings_Contains.f x5 (x0.extract (x6 : Int).toNat ((wrap64 (x6 + 1)) : Int).toNat)).bind fun t159 => (if t159 = true then (regletref02_Name.l0 k x0 x5 (wrap64 (x6 + 1))) else (some false))) else (none)) else (none)) else (none)) else (if x0.toList = ([] : List UInt8) then (some false) else (some (decide ((x0.size : Int) ≤ 60))))
end
def regletref02_Name.f (k : Nat) (a0 : ByteArray) (a1 : Bool) : Option (Bool) := if a1 = true then (if 65 + 2 ≤ 9223372036854775807 then (regletref02_Name.j0 k a0 ((⟨#[97, 98, 99, 100, 101, 102, 103, 104, 105, 106, 107, 108, 109, 110, 111, 112, 113, 114, 115, 116, 117, 118, 119, 120, 121, 122, 65, 66, 67, 68, 69, 70, 71, 72, 73, 74, 75, 76, 77, 78, 79, 80, 81, 82, 83, 84, 85, 86, 87, 88, 89, 90, 48, 49, 50, 51, 52, 53, 54, 55, 56, 57, 95, 36, 47]⟩ : ByteArray) ++ (⟨#[60, 62]⟩ : ByteArray))) else (none)) else (regletref02_Name.j0 k a0 (⟨#[97, 98, 99, 100, 101, 102, 103, 104, 105, 106, 107, 108, 109, 110, 111, 112, 113, 114, 115, 116, 117, 118, 119, 120, 121, 122, 65, 66, 67, 68, 69, 70, 71, 72, 73, 74, 75, 76, 77, 78, 79, 80, 81, 82, 83, 84, 85, 86, 87, 88, 89, 90, 48, 49, 50, 51, 52, 53, 54, 55, 56, 57, 95, 36, 47]⟩ : ByteArray))
theorem regletref02_Name.mono_l : ∀ k, (∀ y0 y1, LeO (regletref02_Name.j0 k y0 y1) (regletref02_Name.j0 (k + 1) y0 y1)) ∧ (∀ y0 y1 y2, LeO (regletref02_Name.l0 k y0 y1 y2) (regletref02_Name.l0 (k + 1) y0 y1 y2))
 | 0 => ⟨fun _ _ r h => by simp [regletref02_Name.j0] at h, fun _ _ _ r h => by simp [regletref02_Name.l0] at h⟩
 | k + 1 => by
  obtain ⟨ih0, ih1⟩ := regletref02_Name.mono_l k
  refine ⟨?_, ?_⟩
  ·intro y0 y1
   unfold regletref02_Name.j0
   repeat' first
   | (with_reducible exact ih0 _ _)
   | (with_reducible exact ih1 _ _ _)
   | (with_reducible exact LeO.refl _)
   | (with_reducible exact LeO.none _)
   | (with_reducible refine LeO.ite ?_ ?_)
   | (with_reducible refine LeO.bind ?_ (fun _ => ?_))
   | exact ih0 _ _
   | exact ih1 _ _ _
   | exact LeO.none _
   | refine LeO.ite ?_ ?_
   | refine LeO.bind ?_ (fun _ => ?_)
  ·intro y0 y1 y2
   unfold regletref02_Name.l0
   repeat' first
   | (with_reducible exact ih0 _ _)
   | (with_reducible exact ih1 _ _ _)
   | (with_reducible exact LeO.refl _)
   | (with_reducible exact LeO.none _)
   | (with_reducible refine LeO.ite ?_ ?_)
   | (with_reducible refine LeO.bind ?_ (fun _ => ?_))
   | exact ih0 _ _
   | exact ih1 _ _ _
   | exact LeO.none _
   | refine LeO.ite ?_ ?_
   | refine LeO.bind ?_ (fun _ => ?_)
theorem regletref02_Name.mono : ∀ a0 a1 k, LeO (regletref02_Name.f k a0 a1) (regletref02_Name.f (k + 1) a0 a1) := by
 intro a0 a1 k
 obtain ⟨ih0, ih1⟩ := regletref02_Name.mono_l k
 unfold regletref02_Name.f
 repeat' first
   | (with_reducible exact ih0 _ _)
   | (with_reducible exact ih1 _ _ _)
   | (with_reducible exact LeO.refl _)
   | (with_reducible exact LeO.none _)
   | (with_reducible refine LeO.ite ?_ ?_)
   | (with_reducible refine LeO.bind ?_ (fun _ => ?_))
   | exact ih0 _ _
   | exact ih1 _ _ _
   | exact LeO.none _
   | refine LeO.ite ?_ ?_
   | refine LeO.bind ?_ (fun _ => ?_)
set_option maxHeartbeats 8000000 in
set_option maxRecDepth 100000 in
theorem regletref02_Name.calls (k : Nat) (a0 : ByteArray) (a1 : Bool) (r : Bool) (w : World) (h : regletref02_Name.f k a0 a1 = some r) :
  Calls Try.prog 24 #[.string a0, .bool a1] w fun e w' => e = .returned (.bool r) ∧ Drawn0 w w' := by
 have H : (if a1 = true then (if 65 + 2 ≤ 9223372036854775807 then (regletref02_Name.j0 k a0 ((⟨#[97, 98, 99, 100, 101, 102, 103, 104, 105, 106, 107, 108, 109, 110, 111, 112, 113, 114, 115, 116, 117, 118, 119, 120, 121, 122, 65, 66, 67, 68, 69, 70, 71, 72, 73, 74, 75, 76, 77, 78, 79, 80, 81, 82, 83, 84, 85, 86, 87, 88, 89, 90, 48, 49, 50, 51, 52, 53, 54, 55, 56, 57, 95, 36, 47]⟩ : ByteArray) ++ (⟨#[60, 62]⟩ : ByteArray))) else (none)) else (regletref02_Name.j0 k a0 (⟨#[97, 98, 99, 100, 101, 102, 103, 104, 105, 106, 107, 108, 109, 110, 111, 112, 113, 114, 115, 116, 117, 118, 119, 120, 121, 122, 65, 66, 67, 68, 69, 70, 71, 72, 73, 74, 75, 76, 77, 78, 79, 80, 81, 82, 83, 84, 85, 86, 87, 88, 89, 90, 48, 49, 50, 51, 52, 53, 54, 55, 56, 57, 95, 36, 47]⟩ : ByteArray))) = some r := h
 clear h
 have HC3 := Aside0.mk H
 clear H
 go_enter Try.func24, Try.ntmps24
 go_upto_if 7 with (fail)
 go_cut [5] (fun v5 wc => ∃ (kq : Nat) (x5_2 : ByteArray), v5 = .string x5_2 ∧ Aside0 (regletref02_Name.j0 kq a0 x5_2 = some r) ∧ Aside0 (kq ≤ k) ∧ Drawn0 w wc)
 case first =>
  have H := HC3.out
  clear HC3
  by_cases c4 : a1 = true
  ·subst c4
   have H1 : (if 65 + 2 ≤ 9223372036854775807 then (regletref02_Name.j0 k a0 ((⟨#[97, 98, 99, 100, 101, 102, 103, 104, 105, 106, 107, 108, 109, 110, 111, 112, 113, 114, 115, 116, 117, 118, 119, 120, 121, 122, 65, 66, 67, 68, 69, 70, 71, 72, 73, 74, 75, 76, 77, 78, 79, 80, 81, 82, 83, 84, 85, 86, 87, 88, 89, 90, 48, 49, 50, 51, 52, 53, 54, 55, 56, 57, 95, 36, 47]⟩ : ByteArray) ++ (⟨#[60, 62]⟩ : ByteArray))) else (none)) = some r := by rw [if_pos rfl] at H; exact H
   clear H
   have H := H1
   clear H1
   by_cases c5 : 65 + 2 ≤ 9223372036854775807
   ·rw [if_pos c5] at H
    have c5b0 := eq_true c5
    have c5b1 : decide (65 + 2 ≤ 9223372036854775807) = true := decide_eq_true c5
    try have c5b2 : (9223372036854775807 < 65 + 2) = False := eq_false (Nat.not_lt.2 c5)
    have H' := Aside0.mk H
    clear H
    go_wp2
    go_meet
    case rel => exact ⟨_, ((⟨#[97, 98, 99, 100, 101, 102, 103, 104, 105, 106, 107, 108, 109, 110, 111, 112, 113, 114, 115, 116, 117, 118, 119, 120, 121, 122, 65, 66, 67, 68, 69, 70, 71, 72, 73, 74, 75, 76, 77, 78, 79, 80, 81, 82, 83, 84, 85, 86, 87, 88, 89, 90, 48, 49, 50, 51, 52, 53, 54, 55, 56, 57, 95, 36, 47]⟩ : ByteArray) ++ (⟨#[60, 62]⟩ : ByteArray)), (by first | rfl | (simp; done) | (simp [*]; done)), H', ⟨by first | omega | exact Nat.le_refl _⟩, by repeat (first | exact Drawn0.refl _ | apply Drawn0.step)⟩
   ·rw [if_neg c5] at H
    exact absurd H (by simp)
  ·replace c4 := Bool.eq_false_iff.mpr c4
   subst c4
   have H1 : (regletref02_Name.j0 k a0 (⟨#[97, 98, 99, 100, 101, 102, 103, 104, 105, 106, 107, 108, 109, 110, 111, 112, 113, 114, 115, 116, 117, 118, 119, 120, 121, 122, 65, 66, 67, 68, 69, 70, 71, 72, 73, 74, 75, 76, 77, 78, 79, 80, 81, 82, 83, 84, 85, 86, 87, 88, 89, 90, 48, 49, 50, 51, 52, 53, 54, 55, 56, 57, 95, 36, 47]⟩ : ByteArray)) = some r := by rw [if_neg (show ¬ (false = true) by decide)] at H; exact H
   clear H
   have H := H1
   clear H1
   have H' := Aside0.mk H
   clear H
   go_wp2
   go_meet
   case rel => exact ⟨_, ((⟨#[97, 98, 99, 100, 101, 102, 103, 104, 105, 106, 107, 108, 109, 110, 111, 112, 113, 114, 115, 116, 117, 118, 119, 120, 121, 122, 65, 66, 67, 68, 69, 70, 71, 72, 73, 74, 75, 76, 77, 78, 79, 80, 81, 82, 83, 84, 85, 86, 87, 88, 89, 90, 48, 49, 50, 51, 52, 53, 54, 55, 56, 57, 95, 36, 47]⟩ : ByteArray)), (by first | rfl | (simp; done) | (simp [*]; done)), H', ⟨by first | omega | exact Nat.le_refl _⟩, by repeat (first | exact Drawn0.refl _ | apply Drawn0.step)⟩
 case rest =>
  clear HC3
  try clear c2
  try clear p2
  try clear c4
  try clear c5
  try clear c5b0
  try clear c5b1
  try clear c5b2
  obtain ⟨kq, x5_2, rfl, HA, HJ2, ⟨mc2, rfl⟩⟩ := hcut
  cases kq with
  | zero => exact absurd HA.out (by simp [regletref02_Name.j0])
  | succ kj2 =>
   have H := HA.out
   clear HA
   simp only [regletref02_Name.j0] at H
   have H' := Aside0.mk H
   clear H
   go_wp2
   go_loopg [6] kj2 (fun kq v6 w' => ∃ (x6_2 : Int), v6 = .int .i64 x6_2 ∧ Aside0 (regletref02_Name.l0 kq a0 x5_2 x6_2 = some r) ∧ Aside0 (kq ≤ kj2) ∧ Drawn0 w w')
   case atStart => exact ⟨(0), (by first | rfl | (simp; done) | (simp [*]; done)), H', ⟨Nat.le_refl _⟩, by repeat (first | exact Drawn0.refl _ | apply Drawn0.step)⟩
   case round =>
    clear H'
    try clear c2
    try clear p2
    try clear c4
    try clear c5
    try clear c5b0
    try clear c5b1
    try clear c5b2
    try clear p2
    obtain ⟨x6_2, rfl, HA, HK2, ⟨m2, rfl⟩⟩ := hrel
    cases gk with
    | zero => exact absurd HA.out (by simp [regletref02_Name.l0])
    | succ k2 =>
     have H := HA.out
     clear HA
     simp only [regletref02_Name.l0] at H
     by_cases c6 : x6_2 < (a0.size : Int)
     ·rw [if_pos c6] at H
      have c6b0 : decide (x6_2 < (a0.size : Int)) = true := decide_eq_true c6
      clear c6
      by_cases c7 : 0 ≤ x6_2
      ·rw [if_pos c7] at H
       have c7b0 := eq_true c7
       have c7b1 : decide (0 ≤ x6_2) = true := decide_eq_true c7
       clear c7
       by_cases c8 : x6_2 ≤ (wrap64 (x6_2 + 1))
       ·rw [if_pos c8] at H
        have c8b0 := eq_true c8
        have c8b1 : decide (x6_2 ≤ (wrap64 (x6_2 + 1))) = true := decide_eq_true c8
        by_cases c9 : (wrap64 (x6_2 + 1)) ≤ (a0.size : Int)
        ·rw [if_pos c9] at H
         have c9b0 := eq_true c9
         have c9b1 : decide ((wrap64 (x6_2 + 1)) ≤ (a0.size : Int)) = true := decide_eq_true c9
         replace H := Option.bind_eq_some_iff.mp H
         obtain ⟨t159, A100, H⟩ := H
         replace H : (if t159 = true then (regletref02_Name.l0 k2 a0 x5_2 (wrap64 (x6_2 + 1))) else (some false)) = some r := H
         have A10 := Aside0.mk A100
         clear A100
         by_cases c11 : t159 = true
         ·subst c11
          have H1 : (regletref02_Name.l0 k2 a0 x5_2 (wrap64 (x6_2 + 1))) = some r := by rw [if_pos rfl] at H; exact H
          clear H
          have H := H1
          clear H1
          have H' := Aside0.mk H
          clear H
          go_wp2_with (first | ((with_reducible refine gate_callee (f := 33) rfl ?_); refine goesL_ (some 22) rfl rfl Try.func33 (by kernel_rfl) rfl #[.string x5_2, .string (a0.extract (x6_2 : Int).toNat ((wrap64 (x6_2 + 1)) : Int).toNat)] rfl (by (try simp only [List.map_toArray, List.map_cons, List.map_nil]); first | done | rfl | (simp only [List.length_drop, List.length_take]; rfl)) ?_; (with_reducible refine (strings_Contains.calls x5_2 (a0.extract (x6_2 : Int).toNat ((wrap64 (x6_2 + 1)) : Int).toNat) true _ A10.out).mono ?_); rintro e w' ⟨rfl, ⟨nd, rfl⟩⟩; refine ⟨_, rfl, ?_⟩))
          go_roundg k2
          case measure => have := HJ2.out; have := HK2.out; omega
          case rel => exact ⟨(wrap64 (x6_2 + 1)), (by first | rfl | (simp; done) | (simp [*]; done)), H', ⟨by have := HJ2.out; have := HK2.out; omega⟩, by repeat (first | exact Drawn0.refl _ | apply Drawn0.step)⟩
         ·replace c11 := Bool.eq_false_iff.mpr c11
          subst c11
          have H1 : (some false) = some r := by rw [if_neg (show ¬ (false = true) by decide)] at H; exact H
          clear H
          have H := H1
          clear H1
          obtain rfl := Option.some.inj H
          go_wp2_with (first | ((with_reducible refine gate_callee (f := 33) rfl ?_); refine goesL_ (some 22) rfl rfl Try.func33 (by kernel_rfl) rfl #[.string x5_2, .string (a0.extract (x6_2 : Int).toNat ((wrap64 (x6_2 + 1)) : Int).toNat)] rfl (by (try simp only [List.map_toArray, List.map_cons, List.map_nil]); first | done | rfl | (simp only [List.length_drop, List.length_take]; rfl)) ?_; (with_reducible refine (strings_Contains.calls x5_2 (a0.extract (x6_2 : Int).toNat ((wrap64 (x6_2 + 1)) : Int).toNat) false _ A10.out).mono ?_); rintro e w' ⟨rfl, ⟨nd, rfl⟩⟩; refine ⟨_, rfl, ?_⟩))
          go_ret
          exact ⟨by first | rfl | (simp; done) | (simp [*]; done), by repeat (first | exact Drawn0.refl _ | apply Drawn0.step)⟩
        ·rw [if_neg c9] at H
         exact absurd H (by simp)
       ·rw [if_neg c8] at H
        exact absurd H (by simp)
      ·rw [if_neg c7] at H
       exact absurd H (by simp)
     ·rw [if_neg c6] at H
      have c6b0 : decide (x6_2 < (a0.size : Int)) = false := decide_eq_false c6
      clear c6
      by_cases c12 : a0.toList = ([] : List UInt8)
      ·rw [if_pos c12] at H
       have c12b0 : (a0.toList == ([] : List UInt8)) = true := beq_iff_eq.mpr c12
       have c12b1 : (a0.toList != ([] : List UInt8)) = false := bne_eq_false_iff_eq.mpr c12
       clear c12
       obtain rfl := Option.some.inj H
       go_wp2
       go_ret
       exact ⟨by first | rfl | (simp; done) | (simp [*]; done), by repeat (first | exact Drawn0.refl _ | apply Drawn0.step)⟩
      ·rw [if_neg c12] at H
       have c12b0 : (a0.toList == ([] : List UInt8)) = false := beq_eq_false_iff_ne.mpr c12
       have c12b1 : (a0.toList != ([] : List UInt8)) = true := bne_iff_ne.mpr c12
       obtain rfl := Option.some.inj H
       go_wp2
       go_ret
       exact ⟨by first | rfl | (simp; done) | (simp [*]; done), by repeat (first | exact Drawn0.refl _ | apply Drawn0.step)⟩

end Go.Proofs.Ytbbogkhidaekoaa.PAll
