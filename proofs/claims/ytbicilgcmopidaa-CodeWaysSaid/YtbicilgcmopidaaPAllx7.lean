-- Printed by this session's own program wip/tools/pp.py (the kit's printer with hooks of the session's); not a text of print.sh.
import Derived.Test.YtbicilgcmopidaaPAllx0
import Derived.Test.YtbicilgcmopidaaPAllx5
import Derived.Test.YtbicilgcmopidaaPAllx6
namespace Go.Proofs.Ytbicilgcmopidaa.PAll
open Go.RowKit Go.Proofs.YtbicilgcmopidaaW.PrintWords Go.Proofs.YtbicilgcmopidaaW.PrintLast Go.Proofs.YtbicilgcmopidaaW.PrintMore
attribute [local go_sem] max2_int min2_int max_two min_two max_three min_three max_four min_four   -- for this text's walks alone
set_option linter.unusedVariables false
set_option linter.unusedSimpArgs false

/-! ### regletref06_Decode: function 10 -/
mutual
def regletref06_Decode.l0 : Nat → List Int → List (S36) → List Bool → Int → Option ((List (S36)) × Int)
 | 0, _, _, _, _ => none
 | k + 1, x0, x4, x5, x6 => if x6 < (x0.length : Int) then (if 0 ≤ x6 then ((regletref06_Size.f k (wrap64 (rd x0 x6))).bind fun t160 => (if t160 = 0 then (regletref06_Decode.j1 k x0 x4 x5 x6 (wrap64 (rd x0 x6)) t160 true) else (regletref06_Decode.j1 k x0 x4 x5 x6 (wrap64 (rd x0 x6)) t160 (decide ((wrap64 (x6 + t160)) > (x0.length : Int)))))) else (none)) else (regletref06_Decode.l1 k x0 x4 x5 0)
def regletref06_Decode.j1 : Nat → List Int → List (S36) → List Bool → Int → Int → Int → Bool → Option ((List (S36)) × Int)
 | 0, _, _, _, _, _, _, _ => none
 | k + 1, x0, x4, x5, x6, x7, x8, x42 => if x42 = true then (some (([] : List (S36)), 40)) else (if x8 > 1 then (if 0 ≤ (wrap64 (x6 + 1)) then (if (wrap64 (x6 + 1)) < (x0.length : Int) then (regletref06_Decode.j2 k x0 x4 x5 x6 x7 x8 (wrap64 (rd x0 (wrap64 (x6 + 1)))) 0 x6 x7 0 0) else (none)) else (none)) else (regletref06_Decode.j2 k x0 x4 x5 x6 x7 x8 0 0 x6 x7 0 0))
def regletref06_Decode.j2 : Nat → List Int → List (S36) → List Bool → Int → Int → Int → Int → Int → Int → Int → Int → Int → Option ((List (S36)) × Int)
 | 0, _, _, _, _, _, _, _, _, _, _, _, _ => none
 | k + 1, x0, x4, x5, x6, x7, x8, x10, x11, x162000, x162001, x162002, x162003 => if x8 > 2 then (if 0 ≤ (wrap64 (x6 + 2)) then (if (wrap64 (x6 + 2)) < (x0.length : Int) then (regletref06_Decode.j3 k x0 x4 x5 x6 x7 x8 x10 (wrap64 ((wrap64 (256 * x10)) + (wrap64 (rd x0 (wrap64 (x6 + 2)))))) x162000 x162001 x162002 x162003) else (none)) else (none)) else (regletref06_Decode.j3 k x0 x4 x5 x6 x7 x8 x10 x11 x162000 x162001 x162002 x162003)
def regletref06_Decode.j3 : Nat → List Int → List (S36) → List Bool → Int → Int → Int → Int → Int → Int → Int → Int → Int → Option ((List (S36)) × Int)
 | 0, _, _, _, _, _, _, _, _, _, _, _, _ => none
 | k + 1, x0, x4, x5, x6, x7, x8, x10, x11, x162000, x162001, x162002, x162003 => (regletref06_row.f k x7).bind fun t164 => (if t164 = 2 then (if 0 ≤ x6 then (if x6 < (x5.length : Int) then (if x4.length < 4398046511104 then (regletref06_Decode.l0 k x0 (x4 ++ [(⟨x162000, x162001, x10, x162003⟩ : S36)]) (x5.set (x6 : Int).toNat true) (wrap64 (x6 + x8))) else (none)) else (none)) else (none)) else (if t164 = 3 then ((regletref06_sign.f x10 1).bind fun t169 => (if 0 ≤ x6 then (if x6 < (x5.length : Int) then (if x4.length < 4398046511104 then (regletref06_Decode.l0 k x0 (x4 ++ [(⟨x162000, x162001, t169, x162003⟩ : S36)]) (x5.set (x6 : Int).toNat true) (wrap64 (x6 + x8))) else (none)) else (none)) else (none))) else (if t164 = 4 then ((regletref06_sign.f x11 2).bind fun t174 => (if 0 ≤ x6 then (if x6 < (x5.length : Int) then (if x4.length < 4398046511104 then (regletref06_Decode.l0 k x0 (x4 ++ [(⟨x162000, x162001, t174, x162003⟩ : S36)]) (x5.set (x6 : Int).toNat true) (wrap64 (x6 + x8))) else (none)) else (none)) else (none))) else (if t164 = 5 then (if 0 ≤ x6 then (if x6 < (x5.length : Int) then (if x4.length < 4398046511104 then (regletref06_Decode.l0 k x0 (x4 ++ [(⟨x162000, x162001, x11, x162003⟩ : S36)]) (x5.set (x6 : Int).toNat true) (wrap64 (x6 + x8))) else (none)) else (none)) else (none)) else (if t164 = 6 then ((regletref06_sign.f x11 2).bind fun t183 => (if 0 ≤ x6 then (if x6 < (x5.length : Int) then (if x4.length < 4398046511104 then (regletref06_Decode.l0 k x0 (x4 ++ [(⟨x162000, x162001, wrap64 (x6 + t183), x162003⟩ : S36)]) (x5.set (x6 : Int).toNat true) (wrap64 (x6 + x8))) else (none)) else (none)) else (none))) else (if t164 = 7 then ((regletref06_sign.f (Int.tmod x11 256) 1).bind fun t188 => (if 0 ≤ x6 then (if x6 < (x5.length : Int) then (if x4.length < 4398046511104 then (regletref06_Decode.l0 k x0 (x4 ++ [(⟨x162000, x162001, x10, t188⟩ : S36)]) (x5.set (x6 : Int).toNat true) (wrap64 (x6 + x8))) else (none)) else (none)) else (none))) else (if 0 ≤ x6 then (if x6 < (x5.length : Int) then (if x4.length < 4398046511104 then (regletref06_Decode.l0 k x0 (x4 ++ [(⟨x162000, x162001, x162002, x162003⟩ : S36)]) (x5.set (x6 : Int).toNat true) (wrap64 (x6 + x8))) else (none)) else (none)) else (none))))))))
def regletref06_Decode.l1 : Nat → List Int → List (S36) → List Bool → Int → Option ((List (S36)) × Int)
 | 0, _, _, _, _ => none
 | k + 1, x0, x4, x5, x12 => if x12 < (x4.length : Int) then (if 0 ≤ x12 then ((regletref06_Leads.f ((rd_T36 x4 x12).f1)).bind fun t198 => (if t198 = true then (if ((rd_T36 x4 x12).f2) < 0 then (some (([] : List (S36)), 41)) else (if ((rd_T36 x4 x12).f2) ≥ (x0.length : Int) then (some (([] : List (S36)), 41)) else (if 0 ≤ ((rd_T36 x4 x12).f2) then (if ((rd_T36 x4 x12).f2) < (x5.length : Int) then (if (rdOf false x5 ((rd_T36 x4 x12).f2) = true) then (regletref06_Decode.l1 k x0 x4 x5 (wrap64 (x12 + 1))) else (some (([] : List (S36)), 41))) else (none)) else (none)))) else (regletref06_Decode.l1 k x0 x4 x5 (wrap64 (x12 + 1))))) else (none)) else (some (x4, 0))
end
def regletref06_Decode.f (k : Nat) (l0 : List Int) : Option ((List (S36)) × Int) := if (l0.length : Int) = 0 then (some (([] : List (S36)), 40)) else (if (l0.length : Int) > 4000 then (some (([] : List (S36)), 2)) else (if 0 ≤ (l0.length : Int) then (if ((l0.length : Int) : Int).toNat ≤ 281474976710656 then (regletref06_Decode.l0 k l0 ([] : List (S36)) (List.replicate ((l0.length : Int) : Int).toNat false) 0) else (none)) else (none)))
theorem regletref06_Decode.mono_l : ∀ k, (∀ y0 y1 y2 y3, LeO (regletref06_Decode.l0 k y0 y1 y2 y3) (regletref06_Decode.l0 (k + 1) y0 y1 y2 y3)) ∧ (∀ y0 y1 y2 y3 y4 y5 y6, LeO (regletref06_Decode.j1 k y0 y1 y2 y3 y4 y5 y6) (regletref06_Decode.j1 (k + 1) y0 y1 y2 y3 y4 y5 y6)) ∧ (∀ y0 y1 y2 y3 y4 y5 y6 y7 y8 y9 y10 y11, LeO (regletref06_Decode.j2 k y0 y1 y2 y3 y4 y5 y6 y7 y8 y9 y10 y11) (regletref06_Decode.j2 (k + 1) y0 y1 y2 y3 y4 y5 y6 y7 y8 y9 y10 y11)) ∧ (∀ y0 y1 y2 y3 y4 y5 y6 y7 y8 y9 y10 y11, LeO (regletref06_Decode.j3 k y0 y1 y2 y3 y4 y5 y6 y7 y8 y9 y10 y11) (regletref06_Decode.j3 (k + 1) y0 y1 y2 y3 y4 y5 y6 y7 y8 y9 y10 y11)) ∧ (∀ y0 y1 y2 y3, LeO (regletref06_Decode.l1 k y0 y1 y2 y3) (regletref06_Decode.l1 (k + 1) y0 y1 y2 y3))
 | 0 => ⟨fun _ _ _ _ r h => by simp [regletref06_Decode.l0] at h, fun _ _ _ _ _ _ _ r h => by simp [regletref06_Decode.j1] at h, fun _ _ _ _ _ _ _ _ _ _ _ _ r h => by simp [regletref06_Decode.j2] at h, fun _ _ _ _ _ _ _ _ _ _ _ _ r h => by simp [regletref06_Decode.j3] at h, fun _ _ _ _ r h => by simp [regletref06_Decode.l1] at h⟩
 | k + 1 => by
  obtain ⟨ih0, ih1, ih2, ih3, ih4⟩ := regletref06_Decode.mono_l k
  refine ⟨?_, ?_, ?_, ?_, ?_⟩
  ·intro y0 y1 y2 y3
   unfold regletref06_Decode.l0
   repeat' first
   | (with_reducible exact ih0 _ _ _ _)
   | (with_reducible exact ih1 _ _ _ _ _ _ _)
   | (with_reducible exact ih2 _ _ _ _ _ _ _ _ _ _ _ _)
   | (with_reducible exact ih3 _ _ _ _ _ _ _ _ _ _ _ _)
   | (with_reducible exact ih4 _ _ _ _)
   | (with_reducible exact regletref06_Size.mono _ _)
   | (with_reducible exact regletref06_row.mono _ _)
   | (with_reducible exact LeO.refl _)
   | (with_reducible exact LeO.none _)
   | (with_reducible refine LeO.ite ?_ ?_)
   | (with_reducible refine LeO.bind ?_ (fun _ => ?_))
   | exact ih0 _ _ _ _
   | exact ih1 _ _ _ _ _ _ _
   | exact ih2 _ _ _ _ _ _ _ _ _ _ _ _
   | exact ih3 _ _ _ _ _ _ _ _ _ _ _ _
   | exact ih4 _ _ _ _
   | exact regletref06_Size.mono _ _
   | exact regletref06_row.mono _ _
   | exact LeO.none _
   | refine LeO.ite ?_ ?_
   | refine LeO.bind ?_ (fun _ => ?_)
  ·intro y0 y1 y2 y3 y4 y5 y6
   unfold regletref06_Decode.j1
   repeat' first
   | (with_reducible exact ih0 _ _ _ _)
   | (with_reducible exact ih1 _ _ _ _ _ _ _)
   | (with_reducible exact ih2 _ _ _ _ _ _ _ _ _ _ _ _)
   | (with_reducible exact ih3 _ _ _ _ _ _ _ _ _ _ _ _)
   | (with_reducible exact ih4 _ _ _ _)
   | (with_reducible exact regletref06_Size.mono _ _)
   | (with_reducible exact regletref06_row.mono _ _)
   | (with_reducible exact LeO.refl _)
   | (with_reducible exact LeO.none _)
   | (with_reducible refine LeO.ite ?_ ?_)
   | (with_reducible refine LeO.bind ?_ (fun _ => ?_))
   | exact ih0 _ _ _ _
   | exact ih1 _ _ _ _ _ _ _
   | exact ih2 _ _ _ _ _ _ _ _ _ _ _ _
   | exact ih3 _ _ _ _ _ _ _ _ _ _ _ _
   | exact ih4 _ _ _ _
   | exact regletref06_Size.mono _ _
   | exact regletref06_row.mono _ _
   | exact LeO.none _
   | refine LeO.ite ?_ ?_
   | refine LeO.bind ?_ (fun _ => ?_)
  ·intro y0 y1 y2 y3 y4 y5 y6 y7 y8 y9 y10 y11
   unfold regletref06_Decode.j2
   repeat' first
   | (with_reducible exact ih0 _ _ _ _)
   | (with_reducible exact ih1 _ _ _ _ _ _ _)
   | (with_reducible exact ih2 _ _ _ _ _ _ _ _ _ _ _ _)
   | (with_reducible exact ih3 _ _ _ _ _ _ _ _ _ _ _ _)
   | (with_reducible exact ih4 _ _ _ _)
   | (with_reducible exact regletref06_Size.mono _ _)
   | (with_reducible exact regletref06_row.mono _ _)
   | (with_reducible exact LeO.refl _)
   | (with_reducible exact LeO.none _)
   | (with_reducible refine LeO.ite ?_ ?_)
   | (with_reducible refine LeO.bind ?_ (fun _ => ?_))
   | exact ih0 _ _ _ _
   | exact ih1 _ _ _ _ _ _ _
   | exact ih2 _ _ _ _ _ _ _ _ _ _ _ _
   | exact ih3 _ _ _ _ _ _ _ _ _ _ _ _
   | exact ih4 _ _ _ _
   | exact regletref06_Size.mono _ _
   | exact regletref06_row.mono _ _
   | exact LeO.none _
   | refine LeO.ite ?_ ?_
   | refine LeO.bind ?_ (fun _ => ?_)
  ·intro y0 y1 y2 y3 y4 y5 y6 y7 y8 y9 y10 y11
   unfold regletref06_Decode.j3
   repeat' first
   | (with_reducible exact ih0 _ _ _ _)
   | (with_reducible exact ih1 _ _ _ _ _ _ _)
   | (with_reducible exact ih2 _ _ _ _ _ _ _ _ _ _ _ _)
   | (with_reducible exact ih3 _ _ _ _ _ _ _ _ _ _ _ _)
   | (with_reducible exact ih4 _ _ _ _)
   | (with_reducible exact regletref06_Size.mono _ _)
   | (with_reducible exact regletref06_row.mono _ _)
   | (with_reducible exact LeO.refl _)
   | (with_reducible exact LeO.none _)
   | (with_reducible refine LeO.ite ?_ ?_)
   | (with_reducible refine LeO.bind ?_ (fun _ => ?_))
   | exact ih0 _ _ _ _
   | exact ih1 _ _ _ _ _ _ _
   | exact ih2 _ _ _ _ _ _ _ _ _ _ _ _
   | exact ih3 _ _ _ _ _ _ _ _ _ _ _ _
   | exact ih4 _ _ _ _
   | exact regletref06_Size.mono _ _
   | exact regletref06_row.mono _ _
   | exact LeO.none _
   | refine LeO.ite ?_ ?_
   | refine LeO.bind ?_ (fun _ => ?_)
  ·intro y0 y1 y2 y3
   unfold regletref06_Decode.l1
   repeat' first
   | (with_reducible exact ih0 _ _ _ _)
   | (with_reducible exact ih1 _ _ _ _ _ _ _)
   | (with_reducible exact ih2 _ _ _ _ _ _ _ _ _ _ _ _)
   | (with_reducible exact ih3 _ _ _ _ _ _ _ _ _ _ _ _)
   | (with_reducible exact ih4 _ _ _ _)
   | (with_reducible exact regletref06_Size.mono _ _)
   | (with_reducible exact regletref06_row.mono _ _)
   | (with_reducible exact LeO.refl _)
   | (with_reducible exact LeO.none _)
   | (with_reducible refine LeO.ite ?_ ?_)
   | (with_reducible refine LeO.bind ?_ (fun _ => ?_))
   | exact ih0 _ _ _ _
   | exact ih1 _ _ _ _ _ _ _
   | exact ih2 _ _ _ _ _ _ _ _ _ _ _ _
   | exact ih3 _ _ _ _ _ _ _ _ _ _ _ _
   | exact ih4 _ _ _ _
   | exact regletref06_Size.mono _ _
   | exact regletref06_row.mono _ _
   | exact LeO.none _
   | refine LeO.ite ?_ ?_
   | refine LeO.bind ?_ (fun _ => ?_)
theorem regletref06_Decode.mono : ∀ a0 k, LeO (regletref06_Decode.f k a0) (regletref06_Decode.f (k + 1) a0) := by
 intro a0 k
 obtain ⟨ih0, ih1, ih2, ih3, ih4⟩ := regletref06_Decode.mono_l k
 unfold regletref06_Decode.f
 repeat' first
   | (with_reducible exact ih0 _ _ _ _)
   | (with_reducible exact ih1 _ _ _ _ _ _ _)
   | (with_reducible exact ih2 _ _ _ _ _ _ _ _ _ _ _ _)
   | (with_reducible exact ih3 _ _ _ _ _ _ _ _ _ _ _ _)
   | (with_reducible exact ih4 _ _ _ _)
   | (with_reducible exact regletref06_Size.mono _ _)
   | (with_reducible exact regletref06_row.mono _ _)
   | (with_reducible exact LeO.refl _)
   | (with_reducible exact LeO.none _)
   | (with_reducible refine LeO.ite ?_ ?_)
   | (with_reducible refine LeO.bind ?_ (fun _ => ?_))
   | exact ih0 _ _ _ _
   | exact ih1 _ _ _ _ _ _ _
   | exact ih2 _ _ _ _ _ _ _ _ _ _ _ _
   | exact ih3 _ _ _ _ _ _ _ _ _ _ _ _
   | exact ih4 _ _ _ _
   | exact regletref06_Size.mono _ _
   | exact regletref06_row.mono _ _
   | exact LeO.none _
   | refine LeO.ite ?_ ?_
   | refine LeO.bind ?_ (fun _ => ?_)
set_option maxHeartbeats 8000000 in
set_option maxRecDepth 100000 in
theorem regletref06_Decode.calls (k : Nat) (A0 : Option Addr) (c0 : Nat) (l0 : List Int) (r1 : List (S36)) (r2 : Int) (w : World) (hr0 : Kd.C (Kd.int .u8) w A0 l0.length l0) (hc0 : l0.length ≤ c0) (h : regletref06_Decode.f k l0 = some (r1, r2)) :
  Calls Try.prog 10 #[.slice A0 l0.length c0] w fun e w' => ∃ v0_ : Value, e = .returned (.tuple #[v0_, .int .i64 r2]) ∧ Kd.R k36 36 w' w.heap.size (fun _ => True) v0_ r1 ∧ Below w.heap.size w w' := by
 have hu36 := Try.underlying36
 have HR0 := Aside0.mk hr0
 have HC0 := Aside0.mk hc0
 clear hr0 hc0
 have HB := Aside0.mk (Below.refl w.heap.size w)
 have H : (if (l0.length : Int) = 0 then (some (([] : List (S36)), 40)) else (if (l0.length : Int) > 4000 then (some (([] : List (S36)), 2)) else (if 0 ≤ (l0.length : Int) then (if ((l0.length : Int) : Int).toNat ≤ 281474976710656 then (regletref06_Decode.l0 k l0 ([] : List (S36)) (List.replicate ((l0.length : Int) : Int).toNat false) 0) else (none)) else (none)))) = some (r1, r2) := h
 clear h
 by_cases c2 : (l0.length : Int) = 0
 ·rw [if_pos c2] at H
  have c2b0 : ((l0.length : Int) == 0) = true := beq_iff_eq.mpr c2
  have c2b1 : ((l0.length : Int) != 0) = false := bne_eq_false_iff_eq.mpr c2
  clear c2
  simp only [Option.some.injEq, Prod.mk.injEq] at H
  obtain ⟨rfl, rfl⟩ := H
  go_enter Try.func10, Try.ntmps10
  go_wp2
  go_ret2
  exact ⟨_, by first | rfl | (simp [errW_none, errW_some] <;> rfl) | (simp [*, errW_none, errW_some] <;> rfl), by first | exact Kd.R_nil _ _ _ _ _ | exact Kd.N_nil _ _ _ _ _ | exact Kd.V_nil _ _ _ _ _ | exact Kd.Q_nil _ _ _ _ _ | exact Kd.S_nil _ _ _ _ _, by repeat (first | (with_reducible first | exact HB.out | apply below_alloc | apply pw_below_drewN | apply below_drew1) | exact HB.out)⟩
 ·rw [if_neg c2] at H
  have c2b0 : ((l0.length : Int) == 0) = false := beq_eq_false_iff_ne.mpr c2
  have c2b1 : ((l0.length : Int) != 0) = true := bne_iff_ne.mpr c2
  have c2b2 : ¬ (l0 = []) := fun h_ => c2 (by rw [h_]; rfl)
  by_cases c3 : (l0.length : Int) > 4000
  ·rw [if_pos c3] at H
   have c3b0 : decide (4000 < (l0.length : Int)) = true := decide_eq_true c3
   have c3b1 : decide (4000 < l0.length) = true := decide_eq_true (by omega)
   clear c3
   simp only [Option.some.injEq, Prod.mk.injEq] at H
   obtain ⟨rfl, rfl⟩ := H
   go_enter Try.func10, Try.ntmps10
   go_wp2
   go_ret2
   exact ⟨_, by first | rfl | (simp [errW_none, errW_some] <;> rfl) | (simp [*, errW_none, errW_some] <;> rfl), by first | exact Kd.R_nil _ _ _ _ _ | exact Kd.N_nil _ _ _ _ _ | exact Kd.V_nil _ _ _ _ _ | exact Kd.Q_nil _ _ _ _ _ | exact Kd.S_nil _ _ _ _ _, by repeat (first | (with_reducible first | exact HB.out | apply below_alloc | apply pw_below_drewN | apply below_drew1) | exact HB.out)⟩
  ·rw [if_neg c3] at H
   have c3b0 : decide (4000 < (l0.length : Int)) = false := decide_eq_false c3
   have c3b1 : decide (4000 < l0.length) = false := decide_eq_false (by omega)
   clear c3
   by_cases c4 : 0 ≤ (l0.length : Int)
   ·rw [if_pos c4] at H
    have c4b0 := eq_true c4
    have c4b1 : decide (0 ≤ (l0.length : Int)) = true := decide_eq_true c4
    clear c4
    by_cases c5 : ((l0.length : Int) : Int).toNat ≤ 281474976710656
    ·rw [if_pos c5] at H
     have c5b0 := eq_true c5
     have c5b1 : decide (((l0.length : Int) : Int).toNat ≤ 281474976710656) = true := decide_eq_true c5
     clear c5
     obtain ⟨y156, hy156⟩ : ∃ y_ : List Bool, y_ = (List.replicate ((l0.length : Int) : Int).toNat false) := ⟨_, rfl⟩
     replace H : (regletref06_Decode.l0 k l0 ([] : List (S36)) y156 0) = some (r1, r2) := by first | (rw [hy156]; with_reducible exact H) | (have H2_ := (Option.bind_some _ _).symm.trans H; rw [hy156]; with_reducible exact H2_) | (have H2_ := (Option.bind_some _ _).symm.trans H; with_reducible exact H2_) | with_reducible exact H | (rw [hy156]; exact H) | exact H
     have Ny156 := Aside0.mk hy156
     clear hy156
     have H' := Aside0.mk H
     clear H
     go_enter Try.func10, Try.ntmps10
     go_wp2_with (first | ((with_reducible refine gate_dst (N := 21) rfl ?_); (try (refine gate_guard (by rfl) ?_; dsimp only)); refine Kd.R_make Kd.bool _ 4 rfl (N := 21) rfl 45 _ _ rfl (l0.length : Int) rfl rfl Try.underlying45 (.bool false) 1 info4 rfl (by decide) (by omega) false (ok := fun _ => True) (okp := fun _ => True) rfl (fun _ hk => hk) trivial (of_decide_eq_true (by first | (with_reducible assumption) | assumption)) (Nat.le_trans (Nat.mul_le_mul_right _ (of_decide_eq_true (by first | (with_reducible assumption) | assumption) : (l0.length : Int).toNat ≤ 281474976710656)) (by omega)) (Below.refl _ _) (Nat.le_refl _) ?_; intro v157 w6 ho7 hb hg_ hnew_; clear hg_ hnew_; (first | rw [← Ny156.out] at ho7 | (simp only [Int.reduceToNat] at ho7; rw [← Ny156.out] at ho7)); have n0_ := Aside0.mk (Kd.R_lower ho7 (below_size (by repeat (first | (with_reducible first | exact HB.out | apply below_alloc | apply pw_below_drewN | apply below_drew1) | exact HB.out)))); have n1_ := Aside0.mk (below_step (by repeat (first | (with_reducible first | exact HB.out | apply below_alloc | apply pw_below_drewN | apply below_drew1) | exact HB.out)) hb); clear HB; have HO158 := n0_; have HB := n1_; clear n0_ n1_; clear hb ho7))
     go_loopg [4, 6] k (fun kq v4 v6 w' => ∃ (x4_1 : List (S36)) (x5_1 : List Bool) (x6_1 : Int), v6 = .int .i64 x6_1 ∧ Aside0 (regletref06_Decode.l0 kq l0 x4_1 x5_1 x6_1 = some (r1, r2)) ∧ Aside0 (kq ≤ k) ∧ Aside0 (Kd.R k36 36 w' w.heap.size (fun _ => True) v4 x4_1) ∧ Aside0 (Kd.R Kd.bool 4 w' w.heap.size (fun _ => True) v157 x5_1) ∧ Aside0 (Below w.heap.size w w'))
     case atStart => exact ⟨(([] : List (S36))), (y156), (0), (by first | rfl | (simp; done) | (simp [*]; done)), H', ⟨Nat.le_refl _⟩, ⟨by first | exact Kd.R_nil _ _ _ _ _ | exact Kd.N_nil _ _ _ _ _ | exact Kd.V_nil _ _ _ _ _ | exact Kd.Q_nil _ _ _ _ _ | exact Kd.S_nil _ _ _ _ _⟩, ⟨by (with_reducible repeat (first | apply Kd.R_alloc | apply Kd.R_drewN | apply Kd.R_drew)); exact HO158.out⟩, ⟨by repeat (first | (with_reducible first | exact HB.out | apply below_alloc | apply pw_below_drewN | apply below_drew1) | exact HB.out)⟩⟩
     case round =>
      clear H'
      try clear c1
      try clear c2
      try clear c2b0
      try clear c2b1
      try clear c2b2
      try clear p2
      try clear c3
      try clear c3b0
      try clear c3b1
      try clear c4
      try clear c4b0
      try clear c4b1
      try clear c5
      try clear c5b0
      try clear c5b1
      obtain ⟨x4_1, x5_1, x6_1, rfl, HA, HK1, HO_4, HO_5, HB⟩ := hrel
      cases gk with
      | zero => exact absurd HA.out (by simp [regletref06_Decode.l0])
      | succ k1 =>
       have H := HA.out
       clear HA
       simp only [regletref06_Decode.l0] at H
       by_cases c8 : x6_1 < (l0.length : Int)
       ·rw [if_pos c8] at H
        have c8b0 : decide (x6_1 < (l0.length : Int)) = true := decide_eq_true c8
        clear c8
        by_cases c9 : 0 ≤ x6_1
        ·rw [if_pos c9] at H
         have c9b0 : decide (0 ≤ x6_1) = true := decide_eq_true c9
         clear c9
         replace H := Option.bind_eq_some_iff.mp H
         obtain ⟨t160, A100, H⟩ := H
         replace H : (if t160 = 0 then (regletref06_Decode.j1 k1 l0 x4_1 x5_1 x6_1 (wrap64 (rd l0 x6_1)) t160 true) else (regletref06_Decode.j1 k1 l0 x4_1 x5_1 x6_1 (wrap64 (rd l0 x6_1)) t160 (decide ((wrap64 (x6_1 + t160)) > (l0.length : Int))))) = some (r1, r2) := H
         have A10 := Aside0.mk A100
         clear A100
         have HC11 := Aside0.mk H
         clear H
         have p159 : 0 ≤ (x6_1 : Int) := of_decide_eq_true (by first | (with_reducible assumption) | assumption)
         have q159 : x6_1 < (l0.length : Int) := of_decide_eq_true (by first | (with_reducible assumption) | assumption)
         obtain ⟨ad159, e159, hx159_0⟩ := Kd.at_int HR0.out x6_1 p159 q159
         cases e159
         replace hx159_0 := (HB.out.cell (World.block_lt_of_cell? w _ hx159_0)).trans hx159_0
         replace p159 := eq_true p159
         replace q159 := eq_true q159
         go_upto_region 11 with (first | ((with_reducible refine gate_callee (f := 13) rfl ?_); refine goesL_ (some 32) rfl rfl Try.func13 (by kernel_rfl) rfl #[.int .i64 (wrap64 (rd l0 x6_1))] rfl (by (try simp only [List.map_toArray, List.map_cons, List.map_nil]); first | done | rfl | (simp only [List.length_drop, List.length_take]; rfl)) ?_; (with_reducible refine (regletref06_Size.calls k1 (wrap64 (rd l0 x6_1)) t160 _ A10.out).mono ?_); rintro e w12 ⟨rfl, hb⟩; refine ⟨_, rfl, ?_⟩; have n0_ := Aside0.mk (Kd.R_below (by (with_reducible repeat (first | apply Kd.R_alloc | apply Kd.R_drewN | apply Kd.R_drew)); exact HO_4.out) hb); have n1_ := Aside0.mk (Kd.R_below (by (with_reducible repeat (first | apply Kd.R_alloc | apply Kd.R_drewN | apply Kd.R_drew)); exact HO_5.out) hb); have n2_ := Aside0.mk (below_step (by repeat (first | (with_reducible first | exact HB.out | apply below_alloc | apply pw_below_drewN | apply below_drew1) | exact HB.out)) hb); clear HO_4; clear HO_5; clear HB; have HO_4 := n0_; have HO_5 := n1_; have HB := n2_; clear n0_ n1_ n2_; (try clear hb); (try clear hb2); (try clear hk); (try clear hi)))
         (try simp only [Act.put, List.setIfInBounds_toArray, List.set_cons_zero, List.set_cons_succ])
         go_cut [42] (fun v42 wc => ∃ (kq : Nat) (x42_10 : Bool), v42 = .bool x42_10 ∧ Aside0 (regletref06_Decode.j1 kq l0 x4_1 x5_1 x6_1 (wrap64 (rd l0 x6_1)) t160 x42_10 = some (r1, r2)) ∧ Aside0 (kq ≤ k1) ∧ Aside0 (Kd.R k36 36 wc w.heap.size (fun _ => True) u4 x4_1) ∧ Aside0 (Kd.R Kd.bool 4 wc w.heap.size (fun _ => True) v157 x5_1) ∧ Aside0 (Below w.heap.size w wc))
         case first =>
          have H := HC11.out
          clear HC11
          by_cases c13 : t160 = 0
          ·rw [if_pos c13] at H
           have c13b0 : (t160 == 0) = true := beq_iff_eq.mpr c13
           have c13b1 : (t160 != 0) = false := bne_eq_false_iff_eq.mpr c13
           clear c13
           (first | rw [c13b0] | (simp only [i64_w, i32_w]; rw [c13b0]) | skip)
           have H' := Aside0.mk H
           clear H
           go_wp2
           go_meet
           case rel => exact ⟨_, (true), (by first | rfl | (simp; done) | (simp [*]; done)), H', ⟨by have := HK1.out; first | omega | exact Nat.le_refl _⟩, ⟨by (with_reducible repeat (first | apply Kd.R_alloc | apply Kd.R_drewN | apply Kd.R_drew)); exact HO_4.out⟩, ⟨by (with_reducible repeat (first | apply Kd.R_alloc | apply Kd.R_drewN | apply Kd.R_drew)); exact HO_5.out⟩, ⟨by repeat (first | (with_reducible first | exact HB.out | apply below_alloc | apply pw_below_drewN | apply below_drew1) | exact HB.out)⟩⟩
          ·rw [if_neg c13] at H
           have c13b0 : (t160 == 0) = false := beq_eq_false_iff_ne.mpr c13
           have c13b1 : (t160 != 0) = true := bne_iff_ne.mpr c13
           (first | rw [c13b0] | (simp only [i64_w, i32_w]; rw [c13b0]) | skip)
           have H' := Aside0.mk H
           clear H
           go_wp2
           go_meet
           case rel => exact ⟨_, (decide ((wrap64 (x6_1 + t160)) > (l0.length : Int))), (by first | rfl | (simp; done) | (simp [*]; done)), H', ⟨by have := HK1.out; first | omega | exact Nat.le_refl _⟩, ⟨by (with_reducible repeat (first | apply Kd.R_alloc | apply Kd.R_drewN | apply Kd.R_drew)); exact HO_4.out⟩, ⟨by (with_reducible repeat (first | apply Kd.R_alloc | apply Kd.R_drewN | apply Kd.R_drew)); exact HO_5.out⟩, ⟨by repeat (first | (with_reducible first | exact HB.out | apply below_alloc | apply pw_below_drewN | apply below_drew1) | exact HB.out)⟩⟩
         case rest =>
          clear HC11
          try clear c1
          try clear p1
          try clear q1
          try clear hx1
          try clear c2
          try clear c2b0
          try clear c2b1
          try clear c2b2
          try clear p2
          try clear c3
          try clear c3b0
          try clear c3b1
          try clear c4
          try clear c4b0
          try clear c4b1
          try clear c5
          try clear c5b0
          try clear c5b1
          try clear p6
          try clear c8
          try clear c8b0
          try clear c9
          try clear c9b0
          try clear c10
          try clear c13
          try clear c13b0
          try clear c13b1
          try clear hx159_0
          try clear p159
          try clear p2
          try clear q159
          obtain ⟨kq, x42_10, rfl, HA, HJ10, HO_4, HO_5, HB⟩ := hcut
          cases kq with
          | zero => exact absurd HA.out (by simp [regletref06_Decode.j1])
          | succ kj10 =>
           have H := HA.out
           clear HA
           simp only [regletref06_Decode.j1] at H
           by_cases c14 : x42_10 = true
           ·subst c14
            have H1 : (some (([] : List (S36)), 40)) = some (r1, r2) := by rw [if_pos rfl] at H; exact H
            clear H
            have H := H1
            clear H1
            simp only [Option.some.injEq, Prod.mk.injEq] at H
            obtain ⟨rfl, rfl⟩ := H
            go_wp2
            go_ret2
            exact ⟨_, by first | rfl | (simp [errW_none, errW_some] <;> rfl) | (simp [*, errW_none, errW_some] <;> rfl), by first | exact Kd.R_nil _ _ _ _ _ | exact Kd.N_nil _ _ _ _ _ | exact Kd.V_nil _ _ _ _ _ | exact Kd.Q_nil _ _ _ _ _ | exact Kd.S_nil _ _ _ _ _, by repeat (first | (with_reducible first | exact HB.out | apply below_alloc | apply pw_below_drewN | apply below_drew1) | exact HB.out)⟩
           ·replace c14 := Bool.eq_false_iff.mpr c14
            subst c14
            have H1 : (if t160 > 1 then (if 0 ≤ (wrap64 (x6_1 + 1)) then (if (wrap64 (x6_1 + 1)) < (l0.length : Int) then (regletref06_Decode.j2 kj10 l0 x4_1 x5_1 x6_1 (wrap64 (rd l0 x6_1)) t160 (wrap64 (rd l0 (wrap64 (x6_1 + 1)))) 0 x6_1 (wrap64 (rd l0 x6_1)) 0 0) else (none)) else (none)) else (regletref06_Decode.j2 kj10 l0 x4_1 x5_1 x6_1 (wrap64 (rd l0 x6_1)) t160 0 0 x6_1 (wrap64 (rd l0 x6_1)) 0 0)) = some (r1, r2) := by rw [if_neg (show ¬ (false = true) by decide)] at H; exact H
            clear H
            have H := H1
            clear H1
            have HC15 := Aside0.mk H
            clear H
            go_upto_if 47 with (first | ((with_reducible refine gate_dst (N := 9) rfl ?_); (try (refine gate_guard (by rfl) ?_; dsimp only)); refine box_event ?hg (N := 9) ?hd (cs := #[.int .i64 0, .int .i64 0, .int .i64 0, .int .i64 0]) (t := 36) ?hr ?_; (case hd => rfl); (case hg => rfl); (case hr => first | (go_simp; done) | (go_simp; rfl)); intro gb161 hg w16 hbox hb; have n0_ := Aside0.mk (Kd.R_below (Kd.R_elderB (by (with_reducible repeat (first | apply Kd.R_alloc | apply Kd.R_drewN | apply Kd.R_drew)); exact HO_4.out) gb161 (Nat.le_of_eq hg.symm)) hb); have n1_ := Aside0.mk (Kd.R_below (by (with_reducible repeat (first | apply Kd.R_alloc | apply Kd.R_drewN | apply Kd.R_drew)); exact HO_5.out) hb); have n2_ := Aside0.mk (below_step (by repeat (first | (with_reducible first | exact HB.out | apply below_alloc | apply pw_below_drewN | apply below_drew1) | exact HB.out)) hb); have n3_ := Aside0.mk (hbox); have n4_ := Aside0.mk ((by rw [hg]; exact (below_size (by repeat (first | (with_reducible first | exact HB.out | apply below_alloc | apply pw_below_drewN | apply below_drew1) | exact HB.out))) : w.heap.size ≤ gb161)); have n5_ := Aside0.mk ((by rw [hg]; exact (below_size (by repeat (first | (with_reducible first | exact HB.out | apply below_alloc | apply pw_below_drewN | apply below_drew1) | exact HB.out))) : w.heap.size ≤ gb161)); clear HO_4; clear HO_5; clear HB; have HO_4 := n0_; have HO_5 := n1_; have HB := n2_; have BK161 := n3_; have GW161 := n4_; have GE161 := n5_; clear n0_ n1_ n2_ n3_ n4_ n5_; clear hb hbox hg; have hcz17_0 : w16.cell? ⟨gb161, 0, none⟩ = some (.int .i64 0) := (blk_cell BK161.out 0).trans rfl; have hcz17_1 : w16.cell? ⟨gb161, 1, none⟩ = some (.int .i64 0) := (blk_cell BK161.out 1).trans rfl; have hcz17_2 : w16.cell? ⟨gb161, 2, none⟩ = some (.int .i64 0) := (blk_cell BK161.out 2).trans rfl; have hcz17_3 : w16.cell? ⟨gb161, 3, none⟩ = some (.int .i64 0) := (blk_cell BK161.out 3).trans rfl; have hfz17_0 := blk_frozen BK161.out 0; have hfz17_1 := blk_frozen BK161.out 1; have hfz17_2 := blk_frozen BK161.out 2; have hfz17_3 := blk_frozen BK161.out 3))
            (try simp only [Act.put, List.setIfInBounds_toArray, List.set_cons_zero, List.set_cons_succ])
            go_cut [10] (fun v10 wc => ∃ (kq : Nat) (x10_14 : Int), v10 = .int .i64 x10_14 ∧ Aside0 (regletref06_Decode.j2 kq l0 x4_1 x5_1 x6_1 (wrap64 (rd l0 x6_1)) t160 x10_14 0 x6_1 (wrap64 (rd l0 x6_1)) 0 0 = some (r1, r2)) ∧ Aside0 (kq ≤ kj10) ∧ Aside0 (Kd.R k36 36 wc w.heap.size (fun k_ => k_ ≠ gb161) u4 x4_1) ∧ Aside0 (Kd.R Kd.bool 4 wc w.heap.size (fun _ => True) v157 x5_1) ∧ Aside0 (wc.heap[gb161]? = some (.cells #[.int .i64 x6_1, .int .i64 (wrap64 (rd l0 x6_1)), .int .i64 0, .int .i64 0] 36 (0, 0))) ∧ Aside0 (Below w.heap.size w wc))
            case first =>
             have H := HC15.out
             clear HC15
             by_cases c18 : t160 > 1
             ·rw [if_pos c18] at H
              have c18b0 : decide (1 < t160) = true := decide_eq_true c18
              clear c18
              (first | rw [c18b0] | (simp only [i64_w, i32_w]; rw [c18b0]) | skip)
              obtain ⟨ji19, hji19⟩ : ∃ j_ : Int, (wrap64 (x6_1 + 1)) = j_ := ⟨_, rfl⟩
              replace H : (if 0 ≤ (ji19) then (if (ji19) < (l0.length : Int) then (regletref06_Decode.j2 kj10 l0 x4_1 x5_1 x6_1 (wrap64 (rd l0 x6_1)) t160 (wrap64 (rd l0 (ji19))) 0 x6_1 (wrap64 (rd l0 x6_1)) 0 0) else (none)) else (none)) = some (r1, r2) := by first | (rw [hji19] at H; exact H) | (simp only [hji19] at H ⊢; exact H)
              have hji19w : (IntKind.i64.wrap (x6_1 + 1)) = ji19 := (i64_w _).trans hji19
              by_cases c20 : 0 ≤ (ji19)
              ·rw [if_pos c20] at H
               have c20b0 : decide (0 ≤ (ji19)) = true := decide_eq_true c20
               clear c20
               by_cases c21 : (ji19) < (l0.length : Int)
               ·rw [if_pos c21] at H
                have c21b0 : decide ((ji19) < (l0.length : Int)) = true := decide_eq_true c21
                clear c21
                have H' := Aside0.mk H
                clear H
                have p162 : 0 ≤ ((ji19) : Int) := of_decide_eq_true (by first | (with_reducible assumption) | assumption)
                have q162 : (ji19) < (l0.length : Int) := of_decide_eq_true (by first | (with_reducible assumption) | assumption)
                obtain ⟨ad162, e162, hx162_0⟩ := Kd.at_int HR0.out (ji19) p162 q162
                obtain rfl : ad159 = ad162 := (by injection e162)
                have hn162_0 : ad159.block ≠ gb161 := Nat.ne_of_lt (Nat.lt_of_lt_of_le (by have := World.block_lt_of_cell? _ _ hx162_0; first | rwa [add_block] at this | exact this) GW161.out)
                have hn162_1 : ad159.block ≠ gb161 := Nat.ne_of_lt (Nat.lt_of_lt_of_le (by have := World.block_lt_of_cell? _ _ hx162_0; first | rwa [add_block] at this | exact this) GW161.out)
                have hn162_2 : ad159.block ≠ gb161 := Nat.ne_of_lt (Nat.lt_of_lt_of_le (by have := World.block_lt_of_cell? _ _ hx162_0; first | rwa [add_block] at this | exact this) GW161.out)
                have hn162_3 : ad159.block ≠ gb161 := Nat.ne_of_lt (Nat.lt_of_lt_of_le (by have := World.block_lt_of_cell? _ _ hx162_0; first | rwa [add_block] at this | exact this) GW161.out)
                replace hx162_0 := (HB.out.cell (World.block_lt_of_cell? w _ hx162_0)).trans hx162_0
                replace hx162_0 := (cell_far (p := ⟨gb161, 0, none⟩) (by first | (rw [add_block]; exact hn162_0) | (show (Addr.add _ _).block ≠ _; rw [add_block]; exact hn162_0) | exact hn162_0) (.int .i64 x6_1)).trans hx162_0
                replace hx162_0 := (cell_far (p := ⟨gb161, 1, none⟩) (by first | (rw [add_block]; exact hn162_1) | (show (Addr.add _ _).block ≠ _; rw [add_block]; exact hn162_1) | exact hn162_1) (.int .i64 (wrap64 (rd l0 x6_1)))).trans hx162_0
                replace hx162_0 := (cell_far (p := ⟨gb161, 2, none⟩) (by first | (rw [add_block]; exact hn162_2) | (show (Addr.add _ _).block ≠ _; rw [add_block]; exact hn162_2) | exact hn162_2) (.int .i64 0)).trans hx162_0
                replace hx162_0 := (cell_far (p := ⟨gb161, 3, none⟩) (by first | (rw [add_block]; exact hn162_3) | (show (Addr.add _ _).block ≠ _; rw [add_block]; exact hn162_3) | exact hn162_3) (.int .i64 0)).trans hx162_0
                clear hn162_0
                clear hn162_1
                clear hn162_2
                clear hn162_3
                replace p162 := eq_true p162
                replace q162 := eq_true q162
                go_wp2
                go_meet
                case rel => exact ⟨_, (wrap64 (rd l0 (ji19))), (by first | rfl | (simp; done) | (simp only [← hji19] <;> (first | rfl | simp)) | (simp [*]; done)), H', ⟨by have := HK1.out; have := HJ10.out; first | omega | exact Nat.le_refl _⟩, ⟨by (with_reducible repeat (first | apply Kd.R_alloc | apply Kd.R_drewN | apply Kd.R_drew)); exact Kd.R_mono (Kd.R_far (p := ⟨gb161, 3, none⟩) (Kd.R_far (p := ⟨gb161, 2, none⟩) (Kd.R_far (p := ⟨gb161, 1, none⟩) (Kd.R_far (p := ⟨gb161, 0, none⟩) (Kd.R_mono HO_4.out (fun k_ hk => (⟨hk, hk.2⟩ : _ ∧ k_ ≠ gb161))) (fun _ hk => hk.2) (.int .i64 x6_1)) (fun _ hk => hk.2) (.int .i64 (wrap64 (rd l0 x6_1)))) (fun _ hk => hk.2) (.int .i64 0)) (fun _ hk => hk.2) (.int .i64 0)) (fun _ hk => hk.1.2)⟩, ⟨by (with_reducible repeat (first | apply Kd.R_alloc | apply Kd.R_drewN | apply Kd.R_drew)); exact Kd.R_mono (Kd.R_far (p := ⟨gb161, 3, none⟩) (Kd.R_far (p := ⟨gb161, 2, none⟩) (Kd.R_far (p := ⟨gb161, 1, none⟩) (Kd.R_far (p := ⟨gb161, 0, none⟩) (Kd.R_types HO_5.out BK161.out (by decide)) (fun _ hk => hk.2) (.int .i64 x6_1)) (fun _ hk => hk.2) (.int .i64 (wrap64 (rd l0 x6_1)))) (fun _ hk => hk.2) (.int .i64 0)) (fun _ hk => hk.2) (.int .i64 0)) (fun _ hk => trivial)⟩, ⟨by (with_reducible repeat (first | refine blk_drewN ?_ _ | refine blk_drew ?_ | refine blk_alloc ?_ _)); refine blk_put (cs := #[.int .i64 x6_1, .int .i64 (wrap64 (rd l0 x6_1)), .int .i64 0, .int .i64 0]) ?_ 3 _ rfl; (with_reducible repeat (first | refine blk_drewN ?_ _ | refine blk_drew ?_ | refine blk_alloc ?_ _)); refine blk_put (cs := #[.int .i64 x6_1, .int .i64 (wrap64 (rd l0 x6_1)), .int .i64 0, .int .i64 0]) ?_ 2 _ rfl; (with_reducible repeat (first | refine blk_drewN ?_ _ | refine blk_drew ?_ | refine blk_alloc ?_ _)); refine blk_put (cs := #[.int .i64 x6_1, .int .i64 0, .int .i64 0, .int .i64 0]) ?_ 1 _ rfl; (with_reducible repeat (first | refine blk_drewN ?_ _ | refine blk_drew ?_ | refine blk_alloc ?_ _)); refine blk_put (cs := #[.int .i64 0, .int .i64 0, .int .i64 0, .int .i64 0]) ?_ 0 _ rfl; (with_reducible repeat (first | refine blk_drewN ?_ _ | refine blk_drew ?_ | refine blk_alloc ?_ _)); exact BK161.out⟩, ⟨by repeat (first | (with_reducible first | exact HB.out | apply below_alloc | apply pw_below_drewN | apply below_drew1 | refine below_set ?_ GE161.out) | exact HB.out)⟩⟩
               ·rw [if_neg c21] at H
                exact absurd H (by simp)
              ·rw [if_neg c20] at H
               exact absurd H (by simp)
             ·rw [if_neg c18] at H
              have c18b0 : decide (1 < t160) = false := decide_eq_false c18
              clear c18
              (first | rw [c18b0] | (simp only [i64_w, i32_w]; rw [c18b0]) | skip)
              have H' := Aside0.mk H
              clear H
              go_wp2
              go_meet
              case rel => exact ⟨_, (0), (by first | rfl | (simp; done) | (simp [*]; done)), H', ⟨by have := HK1.out; have := HJ10.out; first | omega | exact Nat.le_refl _⟩, ⟨by (with_reducible repeat (first | apply Kd.R_alloc | apply Kd.R_drewN | apply Kd.R_drew)); exact Kd.R_mono (Kd.R_far (p := ⟨gb161, 3, none⟩) (Kd.R_far (p := ⟨gb161, 2, none⟩) (Kd.R_far (p := ⟨gb161, 1, none⟩) (Kd.R_far (p := ⟨gb161, 0, none⟩) (Kd.R_mono HO_4.out (fun k_ hk => (⟨hk, hk.2⟩ : _ ∧ k_ ≠ gb161))) (fun _ hk => hk.2) (.int .i64 x6_1)) (fun _ hk => hk.2) (.int .i64 (wrap64 (rd l0 x6_1)))) (fun _ hk => hk.2) (.int .i64 0)) (fun _ hk => hk.2) (.int .i64 0)) (fun _ hk => hk.1.2)⟩, ⟨by (with_reducible repeat (first | apply Kd.R_alloc | apply Kd.R_drewN | apply Kd.R_drew)); exact Kd.R_mono (Kd.R_far (p := ⟨gb161, 3, none⟩) (Kd.R_far (p := ⟨gb161, 2, none⟩) (Kd.R_far (p := ⟨gb161, 1, none⟩) (Kd.R_far (p := ⟨gb161, 0, none⟩) (Kd.R_types HO_5.out BK161.out (by decide)) (fun _ hk => hk.2) (.int .i64 x6_1)) (fun _ hk => hk.2) (.int .i64 (wrap64 (rd l0 x6_1)))) (fun _ hk => hk.2) (.int .i64 0)) (fun _ hk => hk.2) (.int .i64 0)) (fun _ hk => trivial)⟩, ⟨by (with_reducible repeat (first | refine blk_drewN ?_ _ | refine blk_drew ?_ | refine blk_alloc ?_ _)); refine blk_put (cs := #[.int .i64 x6_1, .int .i64 (wrap64 (rd l0 x6_1)), .int .i64 0, .int .i64 0]) ?_ 3 _ rfl; (with_reducible repeat (first | refine blk_drewN ?_ _ | refine blk_drew ?_ | refine blk_alloc ?_ _)); refine blk_put (cs := #[.int .i64 x6_1, .int .i64 (wrap64 (rd l0 x6_1)), .int .i64 0, .int .i64 0]) ?_ 2 _ rfl; (with_reducible repeat (first | refine blk_drewN ?_ _ | refine blk_drew ?_ | refine blk_alloc ?_ _)); refine blk_put (cs := #[.int .i64 x6_1, .int .i64 0, .int .i64 0, .int .i64 0]) ?_ 1 _ rfl; (with_reducible repeat (first | refine blk_drewN ?_ _ | refine blk_drew ?_ | refine blk_alloc ?_ _)); refine blk_put (cs := #[.int .i64 0, .int .i64 0, .int .i64 0, .int .i64 0]) ?_ 0 _ rfl; (with_reducible repeat (first | refine blk_drewN ?_ _ | refine blk_drew ?_ | refine blk_alloc ?_ _)); exact BK161.out⟩, ⟨by repeat (first | (with_reducible first | exact HB.out | apply below_alloc | apply pw_below_drewN | apply below_drew1 | refine below_set ?_ GE161.out) | exact HB.out)⟩⟩
            case rest =>
             clear HC15
             try clear c1
             try clear p1
             try clear q1
             try clear hx1
             try clear c2
             try clear c2b0
             try clear c2b1
             try clear c2b2
             try clear p2
             try clear c3
             try clear c3b0
             try clear c3b1
             try clear c4
             try clear c4b0
             try clear c4b1
             try clear c5
             try clear c5b0
             try clear c5b1
             try clear p6
             try clear c8
             try clear c8b0
             try clear c9
             try clear c9b0
             try clear c10
             try clear c13
             try clear c13b0
             try clear c13b1
             try clear c14
             try clear p15
             try clear q15
             try clear hx15
             try clear p16
             try clear q16
             try clear hx16
             try clear c18
             try clear c18b0
             try clear c20
             try clear c20b0
             try clear c21
             try clear c21b0
             try clear hcz17_0
             try clear hcz17_1
             try clear hcz17_2
             try clear hcz17_3
             try clear hfz17_0
             try clear hfz17_1
             try clear hfz17_2
             try clear hfz17_3
             try clear hx159_0
             try clear hx162_0
             try clear p1
             try clear p159
             try clear p162
             try clear p2
             try clear p6
             try clear q1
             try clear q159
             try clear q162
             obtain ⟨kq, x10_14, rfl, HA, HJ14, HO_4, HO_5, BK161, HB⟩ := hcut
             cases kq with
             | zero => exact absurd HA.out (by simp [regletref06_Decode.j2])
             | succ kj14 =>
              have H := HA.out
              clear HA
              simp only [regletref06_Decode.j2] at H
              have HC22 := Aside0.mk H
              clear H
              go_upto_if 55 with (fail)
              go_cut [11] (fun v11 wc => ∃ (kq : Nat) (x11_21 : Int), v11 = .int .i64 x11_21 ∧ Aside0 (regletref06_Decode.j3 kq l0 x4_1 x5_1 x6_1 (wrap64 (rd l0 x6_1)) t160 x10_14 x11_21 x6_1 (wrap64 (rd l0 x6_1)) 0 0 = some (r1, r2)) ∧ Aside0 (kq ≤ kj14) ∧ Aside0 (Kd.R k36 36 wc w.heap.size (fun k_ => k_ ≠ gb161) u4 x4_1) ∧ Aside0 (Kd.R Kd.bool 4 wc w.heap.size (fun _ => True) v157 x5_1) ∧ Aside0 (wc.heap[gb161]? = some (.cells #[.int .i64 x6_1, .int .i64 (wrap64 (rd l0 x6_1)), .int .i64 0, .int .i64 0] 36 (0, 0))) ∧ Aside0 (Below w.heap.size w wc))
              case first =>
               have H := HC22.out
               clear HC22
               by_cases c23 : t160 > 2
               ·rw [if_pos c23] at H
                have c23b0 : decide (2 < t160) = true := decide_eq_true c23
                clear c23
                (first | rw [c23b0] | (simp only [i64_w, i32_w]; rw [c23b0]) | skip)
                obtain ⟨ji24, hji24⟩ : ∃ j_ : Int, (wrap64 (x6_1 + 2)) = j_ := ⟨_, rfl⟩
                replace H : (if 0 ≤ (ji24) then (if (ji24) < (l0.length : Int) then (regletref06_Decode.j3 kj14 l0 x4_1 x5_1 x6_1 (wrap64 (rd l0 x6_1)) t160 x10_14 (wrap64 ((wrap64 (256 * x10_14)) + (wrap64 (rd l0 (ji24))))) x6_1 (wrap64 (rd l0 x6_1)) 0 0) else (none)) else (none)) = some (r1, r2) := by first | (rw [hji24] at H; exact H) | (simp only [hji24] at H ⊢; exact H)
                have hji24w : (IntKind.i64.wrap (x6_1 + 2)) = ji24 := (i64_w _).trans hji24
                by_cases c25 : 0 ≤ (ji24)
                ·rw [if_pos c25] at H
                 have c25b0 : decide (0 ≤ (ji24)) = true := decide_eq_true c25
                 clear c25
                 by_cases c26 : (ji24) < (l0.length : Int)
                 ·rw [if_pos c26] at H
                  have c26b0 : decide ((ji24) < (l0.length : Int)) = true := decide_eq_true c26
                  clear c26
                  have H' := Aside0.mk H
                  clear H
                  have p163 : 0 ≤ ((ji24) : Int) := of_decide_eq_true (by first | (with_reducible assumption) | assumption)
                  have q163 : (ji24) < (l0.length : Int) := of_decide_eq_true (by first | (with_reducible assumption) | assumption)
                  obtain ⟨ad163, e163, hx163_0⟩ := Kd.at_int HR0.out (ji24) p163 q163
                  obtain rfl : ad159 = ad163 := (by injection e163)
                  replace hx163_0 := (HB.out.cell (World.block_lt_of_cell? w _ hx163_0)).trans hx163_0
                  replace p163 := eq_true p163
                  replace q163 := eq_true q163
                  go_wp2
                  go_meet
                  case rel => exact ⟨_, (wrap64 ((wrap64 (256 * x10_14)) + (wrap64 (rd l0 (ji24))))), (by first | rfl | (simp; done) | (simp only [← hji24] <;> (first | rfl | simp)) | (simp [*]; done)), H', ⟨by have := HK1.out; have := HJ10.out; have := HJ14.out; first | omega | exact Nat.le_refl _⟩, ⟨by (with_reducible repeat (first | apply Kd.R_alloc | apply Kd.R_drewN | apply Kd.R_drew)); exact HO_4.out⟩, ⟨by (with_reducible repeat (first | apply Kd.R_alloc | apply Kd.R_drewN | apply Kd.R_drew)); exact HO_5.out⟩, ⟨by (with_reducible repeat (first | refine blk_drewN ?_ _ | refine blk_drew ?_ | refine blk_alloc ?_ _)); exact BK161.out⟩, ⟨by repeat (first | (with_reducible first | exact HB.out | apply below_alloc | apply pw_below_drewN | apply below_drew1 | refine below_set ?_ GE161.out) | exact HB.out)⟩⟩
                 ·rw [if_neg c26] at H
                  exact absurd H (by simp)
                ·rw [if_neg c25] at H
                 exact absurd H (by simp)
               ·rw [if_neg c23] at H
                have c23b0 : decide (2 < t160) = false := decide_eq_false c23
                clear c23
                (first | rw [c23b0] | (simp only [i64_w, i32_w]; rw [c23b0]) | skip)
                have H' := Aside0.mk H
                clear H
                go_wp2
                go_meet
                case rel => exact ⟨_, (0), (by first | rfl | (simp; done) | (simp [*]; done)), H', ⟨by have := HK1.out; have := HJ10.out; have := HJ14.out; first | omega | exact Nat.le_refl _⟩, ⟨by (with_reducible repeat (first | apply Kd.R_alloc | apply Kd.R_drewN | apply Kd.R_drew)); exact HO_4.out⟩, ⟨by (with_reducible repeat (first | apply Kd.R_alloc | apply Kd.R_drewN | apply Kd.R_drew)); exact HO_5.out⟩, ⟨by (with_reducible repeat (first | refine blk_drewN ?_ _ | refine blk_drew ?_ | refine blk_alloc ?_ _)); exact BK161.out⟩, ⟨by repeat (first | (with_reducible first | exact HB.out | apply below_alloc | apply pw_below_drewN | apply below_drew1 | refine below_set ?_ GE161.out) | exact HB.out)⟩⟩
              case rest =>
               clear HC22
               try clear c1
               try clear p1
               try clear q1
               try clear hx1
               try clear c2
               try clear c2b0
               try clear c2b1
               try clear c2b2
               try clear p2
               try clear c3
               try clear c3b0
               try clear c3b1
               try clear c4
               try clear c4b0
               try clear c4b1
               try clear c5
               try clear c5b0
               try clear c5b1
               try clear p6
               try clear c8
               try clear c8b0
               try clear c9
               try clear c9b0
               try clear c10
               try clear c13
               try clear c13b0
               try clear c13b1
               try clear c14
               try clear p15
               try clear q15
               try clear hx15
               try clear p16
               try clear q16
               try clear hx16
               try clear c18
               try clear c18b0
               try clear c20
               try clear c20b0
               try clear c21
               try clear c21b0
               try clear c23
               try clear c23b0
               try clear c25
               try clear c25b0
               try clear c26
               try clear c26b0
               try clear hcz17_0
               try clear hcz17_1
               try clear hcz17_2
               try clear hcz17_3
               try clear hfz17_0
               try clear hfz17_1
               try clear hfz17_2
               try clear hfz17_3
               try clear hx159_0
               try clear hx162_0
               try clear hx163_0
               try clear p1
               try clear p15
               try clear p159
               try clear p16
               try clear p162
               try clear p163
               try clear p2
               try clear p6
               try clear q1
               try clear q15
               try clear q159
               try clear q16
               try clear q162
               try clear q163
               obtain ⟨kq, x11_21, rfl, HA, HJ21, HO_4, HO_5, BK161, HB⟩ := hcut
               cases kq with
               | zero => exact absurd HA.out (by simp [regletref06_Decode.j3])
               | succ kj21 =>
                have H := HA.out
                clear HA
                simp only [regletref06_Decode.j3] at H
                replace H := Option.bind_eq_some_iff.mp H
                obtain ⟨t164, A270, H⟩ := H
                replace H : (if t164 = 2 then (if 0 ≤ x6_1 then (if x6_1 < (x5_1.length : Int) then (if x4_1.length < 4398046511104 then (regletref06_Decode.l0 kj21 l0 (x4_1 ++ [(⟨x6_1, (wrap64 (rd l0 x6_1)), x10_14, 0⟩ : S36)]) (x5_1.set (x6_1 : Int).toNat true) (wrap64 (x6_1 + t160))) else (none)) else (none)) else (none)) else (if t164 = 3 then ((regletref06_sign.f x10_14 1).bind fun t169 => (if 0 ≤ x6_1 then (if x6_1 < (x5_1.length : Int) then (if x4_1.length < 4398046511104 then (regletref06_Decode.l0 kj21 l0 (x4_1 ++ [(⟨x6_1, (wrap64 (rd l0 x6_1)), t169, 0⟩ : S36)]) (x5_1.set (x6_1 : Int).toNat true) (wrap64 (x6_1 + t160))) else (none)) else (none)) else (none))) else (if t164 = 4 then ((regletref06_sign.f x11_21 2).bind fun t174 => (if 0 ≤ x6_1 then (if x6_1 < (x5_1.length : Int) then (if x4_1.length < 4398046511104 then (regletref06_Decode.l0 kj21 l0 (x4_1 ++ [(⟨x6_1, (wrap64 (rd l0 x6_1)), t174, 0⟩ : S36)]) (x5_1.set (x6_1 : Int).toNat true) (wrap64 (x6_1 + t160))) else (none)) else (none)) else (none))) else (if t164 = 5 then (if 0 ≤ x6_1 then (if x6_1 < (x5_1.length : Int) then (if x4_1.length < 4398046511104 then (regletref06_Decode.l0 kj21 l0 (x4_1 ++ [(⟨x6_1, (wrap64 (rd l0 x6_1)), x11_21, 0⟩ : S36)]) (x5_1.set (x6_1 : Int).toNat true) (wrap64 (x6_1 + t160))) else (none)) else (none)) else (none)) else (if t164 = 6 then ((regletref06_sign.f x11_21 2).bind fun t183 => (if 0 ≤ x6_1 then (if x6_1 < (x5_1.length : Int) then (if x4_1.length < 4398046511104 then (regletref06_Decode.l0 kj21 l0 (x4_1 ++ [(⟨x6_1, (wrap64 (rd l0 x6_1)), wrap64 (x6_1 + t183), 0⟩ : S36)]) (x5_1.set (x6_1 : Int).toNat true) (wrap64 (x6_1 + t160))) else (none)) else (none)) else (none))) else (if t164 = 7 then ((regletref06_sign.f (Int.tmod x11_21 256) 1).bind fun t188 => (if 0 ≤ x6_1 then (if x6_1 < (x5_1.length : Int) then (if x4_1.length < 4398046511104 then (regletref06_Decode.l0 kj21 l0 (x4_1 ++ [(⟨x6_1, (wrap64 (rd l0 x6_1)), x10_14, t188⟩ : S36)]) (x5_1.set (x6_1 : Int).toNat true) (wrap64 (x6_1 + t160))) else (none)) else (none)) else (none))) else (if 0 ≤ x6_1 then (if x6_1 < (x5_1.length : Int) then (if x4_1.length < 4398046511104 then (regletref06_Decode.l0 kj21 l0 (x4_1 ++ [(⟨x6_1, (wrap64 (rd l0 x6_1)), 0, 0⟩ : S36)]) (x5_1.set (x6_1 : Int).toNat true) (wrap64 (x6_1 + t160))) else (none)) else (none)) else (none)))))))) = some (r1, r2) := H
                have A27 := Aside0.mk A270
                clear A270
                by_cases c28 : t164 = 2
                ·rw [if_pos c28] at H
                 have c28b0 : (t164 == 2) = true := beq_iff_eq.mpr c28
                 have c28b1 : (t164 != 2) = false := bne_eq_false_iff_eq.mpr c28
                 clear c28
                 by_cases c29 : 0 ≤ x6_1
                 ·rw [if_pos c29] at H
                  have c29b0 : decide (0 ≤ x6_1) = true := decide_eq_true c29
                  clear c29
                  by_cases c30 : x6_1 < (x5_1.length : Int)
                  ·rw [if_pos c30] at H
                   have c30b0 : decide (x6_1 < (x5_1.length : Int)) = true := decide_eq_true c30
                   clear c30
                   obtain ⟨y165, hy165⟩ : ∃ y_ : List Bool, y_ = (x5_1.set (x6_1 : Int).toNat true) := ⟨_, rfl⟩
                   replace H : (if x4_1.length < 4398046511104 then (regletref06_Decode.l0 kj21 l0 (x4_1 ++ [(⟨x6_1, (wrap64 (rd l0 x6_1)), x10_14, 0⟩ : S36)]) y165 (wrap64 (x6_1 + t160))) else (none)) = some (r1, r2) := by first | (rw [hy165]; with_reducible exact H) | (have H2_ := (Option.bind_some _ _).symm.trans H; rw [hy165]; with_reducible exact H2_) | (have H2_ := (Option.bind_some _ _).symm.trans H; with_reducible exact H2_) | with_reducible exact H | (rw [hy165]; exact H) | exact H
                   have Ny165 := Aside0.mk hy165
                   clear hy165
                   by_cases c32 : x4_1.length < 4398046511104
                   ·rw [if_pos c32] at H
                    have LMc32 := Aside0.mk c32
                    clear c32
                    obtain ⟨y166, hy166⟩ : ∃ y_ : List (S36), y_ = (x4_1 ++ [(⟨x6_1, (wrap64 (rd l0 x6_1)), x10_14, 0⟩ : S36)]) := ⟨_, rfl⟩
                    replace H : (regletref06_Decode.l0 kj21 l0 y166 y165 (wrap64 (x6_1 + t160))) = some (r1, r2) := by first | (rw [hy166]; with_reducible exact H) | (have H2_ := (Option.bind_some _ _).symm.trans H; rw [hy166]; with_reducible exact H2_) | (have H2_ := (Option.bind_some _ _).symm.trans H; with_reducible exact H2_) | with_reducible exact H | (rw [hy166]; exact H) | exact H
                    have Ny166 := Aside0.mk hy166
                    clear hy166
                    have H' := Aside0.mk H
                    clear H
                    go_wp2_with (first | ((with_reducible refine gate_callee (f := 21) rfl ?_); refine goesL_ (some 66) rfl rfl Try.func21 (by kernel_rfl) rfl #[.int .i64 (wrap64 (rd l0 x6_1))] rfl (by (try simp only [List.map_toArray, List.map_cons, List.map_nil]); first | done | rfl | (simp only [List.length_drop, List.length_take]; rfl)) ?_; (with_reducible refine (regletref06_row.calls kj21 (wrap64 (rd l0 x6_1)) t164 _ A27.out).mono ?_); rintro e w33 ⟨rfl, hb⟩; refine ⟨_, rfl, ?_⟩; have n0_ := Aside0.mk (Kd.R_below (by (with_reducible repeat (first | apply Kd.R_alloc | apply Kd.R_drewN | apply Kd.R_drew)); exact HO_4.out) hb); have n1_ := Aside0.mk (Kd.R_below (by (with_reducible repeat (first | apply Kd.R_alloc | apply Kd.R_drewN | apply Kd.R_drew)); exact HO_5.out) hb); have n2_ := Aside0.mk (blk_below (g := gb161) (o := .cells #[.int .i64 x6_1, .int .i64 (wrap64 (rd l0 x6_1)), .int .i64 0, .int .i64 0] 36 (0, 0)) (by (with_reducible repeat (first | refine blk_drewN ?_ _ | refine blk_drew ?_ | refine blk_alloc ?_ _)); exact BK161.out) hb); have n3_ := Aside0.mk (below_step (by repeat (first | (with_reducible first | exact HB.out | apply below_alloc | apply pw_below_drewN | apply below_drew1 | refine below_set ?_ GE161.out) | exact HB.out)) hb); clear HO_4; clear HO_5; clear BK161; clear HB; have HO_4 := n0_; have HO_5 := n1_; have BK161 := n2_; have HB := n3_; clear n0_ n1_ n2_ n3_; (try clear hb); (try clear hb2); (try clear hk); (try clear hi); have hcz34_0 : w33.cell? ⟨gb161, 0, none⟩ = some (.int .i64 x6_1) := (blk_cell BK161.out 0).trans rfl; have hcz34_1 : w33.cell? ⟨gb161, 1, none⟩ = some (.int .i64 (wrap64 (rd l0 x6_1))) := (blk_cell BK161.out 1).trans rfl; have hcz34_2 : w33.cell? ⟨gb161, 2, none⟩ = some (.int .i64 0) := (blk_cell BK161.out 2).trans rfl; have hcz34_3 : w33.cell? ⟨gb161, 3, none⟩ = some (.int .i64 0) := (blk_cell BK161.out 3).trans rfl; have hfz34_0 := blk_frozen BK161.out 0; have hfz34_1 := blk_frozen BK161.out 1; have hfz34_2 := blk_frozen BK161.out 2; have hfz34_3 := blk_frozen BK161.out 3) | ((with_reducible refine gate_store (t := 3) (p := 70) rfl ?_); refine store_event (t := 3) (p := 70) (v := ?vo_w35) (w1 := (w33.setCell ⟨gb161, 2, none⟩ (.int .i64 x10_14))) ?hg ?ho ?hn ?hr ?_; (case ho => rfl); (case hg => rfl); (case hn => rfl); (case hr => first | (go_simp; done) | (go_simp; rfl)); intro w35 hw; have n0_ : Aside0 (Kd.R k36 36 w35 w.heap.size (fun k_ => k_ ≠ gb161) u4 x4_1) := ⟨(by rw [hw]; exact (by (with_reducible repeat (first | apply Kd.R_alloc | apply Kd.R_drewN | apply Kd.R_drew)); exact Kd.R_mono (Kd.R_far (p := ⟨gb161, 2, none⟩) (Kd.R_mono HO_4.out (fun k_ hk => (⟨hk, hk⟩ : _ ∧ k_ ≠ gb161))) (fun _ hk => hk.2) (.int .i64 x10_14)) (fun _ hk => hk.1)))⟩; have n1_ : Aside0 (Kd.R Kd.bool 4 w35 w.heap.size (fun _ => True) v157 x5_1) := ⟨(by rw [hw]; exact (by (with_reducible repeat (first | apply Kd.R_alloc | apply Kd.R_drewN | apply Kd.R_drew)); exact Kd.R_mono (Kd.R_far (p := ⟨gb161, 2, none⟩) (Kd.R_types HO_5.out BK161.out (by decide)) (fun _ hk => hk.2) (.int .i64 x10_14)) (fun _ hk => trivial)))⟩; have n2_ : Aside0 (w35.heap[gb161]? = some (.cells #[.int .i64 x6_1, .int .i64 (wrap64 (rd l0 x6_1)), .int .i64 x10_14, .int .i64 0] 36 (0, 0))) := ⟨(by rw [hw]; exact (by (with_reducible repeat (first | refine blk_drewN ?_ _ | refine blk_drew ?_ | refine blk_alloc ?_ _)); refine blk_put (cs := #[.int .i64 x6_1, .int .i64 (wrap64 (rd l0 x6_1)), .int .i64 0, .int .i64 0]) ?_ 2 _ rfl; (with_reducible repeat (first | refine blk_drewN ?_ _ | refine blk_drew ?_ | refine blk_alloc ?_ _)); exact BK161.out))⟩; have n3_ : Aside0 (Below w.heap.size w w35) := ⟨(by rw [hw]; exact (by repeat (first | (with_reducible first | exact HB.out | apply below_alloc | apply pw_below_drewN | apply below_drew1 | refine below_set ?_ GE161.out) | exact HB.out)))⟩; clear hw; clear HO_4; clear HO_5; clear BK161; clear HB; have HO_4 := n0_; have HO_5 := n1_; have BK161 := n2_; have HB := n3_; clear n0_ n1_ n2_ n3_; have p31 : 0 ≤ (x6_1 : Int) := of_decide_eq_true (by first | (with_reducible assumption) | assumption); have q31 : (x6_1 : Int) < ((x5_1.length : Int) : Int) := of_decide_eq_true (by first | (with_reducible assumption) | assumption); obtain ⟨go31, co31, eo31, gb31, gl31, cl31, HG31⟩ := Kd.R_form HO_5.out (by omega); (first | cases eo31 | (injection eo31 with ea_ en_ ec_; (first | subst ea_ | (injection ea_ with ea_; subst ea_)); subst ec_; clear en_)); have GB31 := Aside0.mk gb31; have GG31 := Aside0.mk HG31; clear gb31 gl31 HG31; obtain ⟨hx31_0, hf31_0⟩ := Kd.R_celln false HO_5.out (x6_1 : Int) p31 q31; replace p31 := eq_true p31; replace q31 := eq_true q31; obtain ⟨hy36_, hz36_⟩ := Kd.R_celln false HO_5.out (x6_1 : Int) (of_decide_eq_true (by first | (with_reducible assumption) | assumption)) (of_decide_eq_true (by first | (with_reducible assumption) | assumption)); have HP36 := Kd.R_putg HO_5.out (x6_1 : Int) true) | ((with_reducible refine gate_store (t := 4) (p := 102) rfl ?_); refine store_event (t := 4) (p := 102) (v := ?vo_w37) (w1 := (w35.setCell ⟨go31, (x6_1 : Int).toNat, none⟩ (.bool true))) ?hg ?ho ?hn ?hr ?_; (case ho => rfl); (case hg => rfl); (case hn => rfl); (case hr => first | (go_simp; done) | (go_simp; rfl)); intro w37 hw; have hg : w35.grownBy w37 (some go31) := (by rw [hw]; exact HP36.2); have hp_ : Kd.R Kd.bool 4 w37 w.heap.size (fun _ => True) (.slice (some ⟨go31, 0, none⟩) x5_1.length co31) y165 := (by rw [hw, Ny165.out]; exact HP36.1); clear HP36; have n0_ := Aside0.mk (Kd.R_over' (v := (.slice (some ⟨go31, 0, none⟩) x5_1.length co31)) (by (with_reducible repeat (first | apply Kd.R_alloc | apply Kd.R_drewN | apply Kd.R_drew)); exact HO_4.out) (Kd.R_typed HO_5.out) (by decide) hg); have n1_ := Aside0.mk (hp_); have n2_ := Aside0.mk (blk_grown (g := gb161) (o := .cells #[.int .i64 x6_1, .int .i64 (wrap64 (rd l0 x6_1)), .int .i64 x10_14, .int .i64 0] 36 (0, 0)) (by (with_reducible repeat (first | refine blk_drewN ?_ _ | refine blk_drew ?_ | refine blk_alloc ?_ _)); exact BK161.out) hg (Kd.R_ne HO_5.out BK161.out (by decide))); have n3_ := Aside0.mk ((by rw [hw]; exact below_set (HB.out) GB31.out : Below w.heap.size w w37)); clear HO_4; clear HO_5; clear BK161; clear HB; have HO_4 := n0_; have HO_5 := n1_; have BK161 := n2_; have HB := n3_; clear n0_ n1_ n2_ n3_; clear hg hw hp_; have hcz38_0 : w37.cell? ⟨gb161, 0, none⟩ = some (.int .i64 x6_1) := (blk_cell BK161.out 0).trans rfl; have hcz38_1 : w37.cell? ⟨gb161, 1, none⟩ = some (.int .i64 (wrap64 (rd l0 x6_1))) := (blk_cell BK161.out 1).trans rfl; have hcz38_2 : w37.cell? ⟨gb161, 2, none⟩ = some (.int .i64 x10_14) := (blk_cell BK161.out 2).trans rfl; have hcz38_3 : w37.cell? ⟨gb161, 3, none⟩ = some (.int .i64 0) := (blk_cell BK161.out 3).trans rfl; have hfz38_0 := blk_frozen BK161.out 0; have hfz38_1 := blk_frozen BK161.out 1; have hfz38_2 := blk_frozen BK161.out 2; have hfz38_3 := blk_frozen BK161.out 3) | ((with_reducible refine gate_builtin (b := .append) (xs := #[.tmp 103, .tmp 105]) rfl ?_); (try (refine gate_guard (by rfl) ?_; dsimp only)); at_builtin; refine Kd.R_append k36 (w0 := w) w.heap.size rfl (.tmp 103) (.tmp 105) 24 36 (.agg #[(.int .i64 0), (.int .i64 0), (.int .i64 0), (.int .i64 0)]) 32 rfl Try.underlying24 info36 rfl (by decide) (by omega) u4 x4_1 (⟨x6_1, (wrap64 (rd l0 x6_1)), x10_14, 0⟩ : S36) [.int .i64 x6_1, .int .i64 (wrap64 (rd l0 x6_1)), .int .i64 x10_14, .int .i64 0] (fun k_ => k_ ≠ gb161) (fun _ => False) rfl rfl ?aP (fun _ hk => hk.elim) ?aF ?aO ?aB ?aS ?aL ?_; (case aP => exact k36_mkM _ _ _ (⟨x6_1, (wrap64 (rd l0 x6_1)), x10_14, 0⟩ : S36)); (case aB => exact (by repeat (first | (with_reducible first | exact HB.out | apply below_alloc | apply pw_below_drewN | apply below_drew1 | refine below_set ?_ GE161.out) | exact HB.out))); (case aF => exact (fun k_ hk => Kd.freshB (g := gb161) (o := .cells #[.int .i64 x6_1, .int .i64 (wrap64 (rd l0 x6_1)), .int .i64 x10_14, .int .i64 0] 36 (0, 0)) (by (with_reducible repeat (first | refine blk_drewN ?_ _ | refine blk_drew ?_ | refine blk_alloc ?_ _)); exact BK161.out) k_ hk)); (case aO => exact (by (with_reducible repeat (first | apply Kd.R_alloc | apply Kd.R_drewN | apply Kd.R_drew)); exact HO_4.out)); (case aS => exact (below_size (by repeat (first | (with_reducible first | exact HB.out | apply below_alloc | apply pw_below_drewN | apply below_drew1 | refine below_set ?_ GE161.out) | exact HB.out)))); (case aL => have := LMc32.out; omega); intro v167 w39 ho hb hg hat; rw [← Ny166.out] at ho; have n0_ := Aside0.mk (Kd.R_over' (by (with_reducible repeat (first | apply Kd.R_alloc | apply Kd.R_drewN | apply Kd.R_drew)); exact HO_5.out) (Kd.R_typed (by (with_reducible repeat (first | apply Kd.R_alloc | apply Kd.R_drewN | apply Kd.R_drew)); exact HO_4.out)) (by decide) hg); have n1_ := Aside0.mk (blk_grown (g := gb161) (o := .cells #[.int .i64 x6_1, .int .i64 (wrap64 (rd l0 x6_1)), .int .i64 x10_14, .int .i64 0] 36 (0, 0)) (by (with_reducible repeat (first | refine blk_drewN ?_ _ | refine blk_drew ?_ | refine blk_alloc ?_ _)); exact BK161.out) hg (Kd.R_away HO_4.out (fun _ hk => hk))); have n2_ := Aside0.mk (hb); have n3_ := Aside0.mk (ho); clear HO_5; clear BK161; clear HB; clear HO_4; have HO_5 := n0_; have BK161 := n1_; have HB := n2_; have HO168 := n3_; clear n0_ n1_ n2_ n3_; clear ho hb hg hat))
                    go_roundg kj21
                    case measure => have := HK1.out; have := HJ10.out; have := HJ14.out; have := HJ21.out; omega
                    case rel => exact ⟨(y166), (y165), (wrap64 (x6_1 + t160)), (by first | rfl | (simp; done) | (simp [*]; done)), H', ⟨by have := HK1.out; have := HJ10.out; have := HJ14.out; have := HJ21.out; omega⟩, ⟨by (with_reducible repeat (first | apply Kd.R_alloc | apply Kd.R_drewN | apply Kd.R_drew)); exact Kd.R_mono HO168.out (fun _ hk => trivial)⟩, ⟨by (with_reducible repeat (first | apply Kd.R_alloc | apply Kd.R_drewN | apply Kd.R_drew)); exact HO_5.out⟩, ⟨by repeat (first | (with_reducible first | exact HB.out | apply below_alloc | apply pw_below_drewN | apply below_drew1 | refine below_set ?_ GE161.out) | exact HB.out)⟩⟩
                   ·rw [if_neg c32] at H
                    exact absurd H (by simp)
                  ·rw [if_neg c30] at H
                   exact absurd H (by simp)
                 ·rw [if_neg c29] at H
                  exact absurd H (by simp)
                ·rw [if_neg c28] at H
                 have c28b0 : (t164 == 2) = false := beq_eq_false_iff_ne.mpr c28
                 have c28b1 : (t164 != 2) = true := bne_iff_ne.mpr c28
                 by_cases c40 : t164 = 3
                 ·rw [if_pos c40] at H
                  have c40b0 : (t164 == 3) = true := beq_iff_eq.mpr c40
                  have c40b1 : (t164 != 3) = false := bne_eq_false_iff_eq.mpr c40
                  clear c40
                  replace H := Option.bind_eq_some_iff.mp H
                  obtain ⟨t169, A410, H⟩ := H
                  replace H : (if 0 ≤ x6_1 then (if x6_1 < (x5_1.length : Int) then (if x4_1.length < 4398046511104 then (regletref06_Decode.l0 kj21 l0 (x4_1 ++ [(⟨x6_1, (wrap64 (rd l0 x6_1)), t169, 0⟩ : S36)]) (x5_1.set (x6_1 : Int).toNat true) (wrap64 (x6_1 + t160))) else (none)) else (none)) else (none)) = some (r1, r2) := H
                  have A41 := Aside0.mk A410
                  clear A410
                  by_cases c42 : 0 ≤ x6_1
                  ·rw [if_pos c42] at H
                   have c42b0 : decide (0 ≤ x6_1) = true := decide_eq_true c42
                   clear c42
                   by_cases c43 : x6_1 < (x5_1.length : Int)
                   ·rw [if_pos c43] at H
                    have c43b0 : decide (x6_1 < (x5_1.length : Int)) = true := decide_eq_true c43
                    clear c43
                    obtain ⟨y170, hy170⟩ : ∃ y_ : List Bool, y_ = (x5_1.set (x6_1 : Int).toNat true) := ⟨_, rfl⟩
                    replace H : (if x4_1.length < 4398046511104 then (regletref06_Decode.l0 kj21 l0 (x4_1 ++ [(⟨x6_1, (wrap64 (rd l0 x6_1)), t169, 0⟩ : S36)]) y170 (wrap64 (x6_1 + t160))) else (none)) = some (r1, r2) := by first | (rw [hy170]; with_reducible exact H) | (have H2_ := (Option.bind_some _ _).symm.trans H; rw [hy170]; with_reducible exact H2_) | (have H2_ := (Option.bind_some _ _).symm.trans H; with_reducible exact H2_) | with_reducible exact H | (rw [hy170]; exact H) | exact H
                    have Ny170 := Aside0.mk hy170
                    clear hy170
                    by_cases c45 : x4_1.length < 4398046511104
                    ·rw [if_pos c45] at H
                     have LMc45 := Aside0.mk c45
                     clear c45
                     obtain ⟨y171, hy171⟩ : ∃ y_ : List (S36), y_ = (x4_1 ++ [(⟨x6_1, (wrap64 (rd l0 x6_1)), t169, 0⟩ : S36)]) := ⟨_, rfl⟩
                     replace H : (regletref06_Decode.l0 kj21 l0 y171 y170 (wrap64 (x6_1 + t160))) = some (r1, r2) := by first | (rw [hy171]; with_reducible exact H) | (have H2_ := (Option.bind_some _ _).symm.trans H; rw [hy171]; with_reducible exact H2_) | (have H2_ := (Option.bind_some _ _).symm.trans H; with_reducible exact H2_) | with_reducible exact H | (rw [hy171]; exact H) | exact H
                     have Ny171 := Aside0.mk hy171
                     clear hy171
                     have H' := Aside0.mk H
                     clear H
                     go_wp2_with (first | ((with_reducible refine gate_callee (f := 21) rfl ?_); refine goesL_ (some 66) rfl rfl Try.func21 (by kernel_rfl) rfl #[.int .i64 (wrap64 (rd l0 x6_1))] rfl (by (try simp only [List.map_toArray, List.map_cons, List.map_nil]); first | done | rfl | (simp only [List.length_drop, List.length_take]; rfl)) ?_; (with_reducible refine (regletref06_row.calls kj21 (wrap64 (rd l0 x6_1)) t164 _ A27.out).mono ?_); rintro e w46 ⟨rfl, hb⟩; refine ⟨_, rfl, ?_⟩; have n0_ := Aside0.mk (Kd.R_below (by (with_reducible repeat (first | apply Kd.R_alloc | apply Kd.R_drewN | apply Kd.R_drew)); exact HO_4.out) hb); have n1_ := Aside0.mk (Kd.R_below (by (with_reducible repeat (first | apply Kd.R_alloc | apply Kd.R_drewN | apply Kd.R_drew)); exact HO_5.out) hb); have n2_ := Aside0.mk (blk_below (g := gb161) (o := .cells #[.int .i64 x6_1, .int .i64 (wrap64 (rd l0 x6_1)), .int .i64 0, .int .i64 0] 36 (0, 0)) (by (with_reducible repeat (first | refine blk_drewN ?_ _ | refine blk_drew ?_ | refine blk_alloc ?_ _)); exact BK161.out) hb); have n3_ := Aside0.mk (below_step (by repeat (first | (with_reducible first | exact HB.out | apply below_alloc | apply pw_below_drewN | apply below_drew1 | refine below_set ?_ GE161.out) | exact HB.out)) hb); clear HO_4; clear HO_5; clear BK161; clear HB; have HO_4 := n0_; have HO_5 := n1_; have BK161 := n2_; have HB := n3_; clear n0_ n1_ n2_ n3_; (try clear hb); (try clear hb2); (try clear hk); (try clear hi)) | ((with_reducible refine gate_callee (f := 22) rfl ?_); refine goesL_ (some 74) rfl rfl Try.func22 (by kernel_rfl) rfl #[.int .i64 x10_14, .int .i64 1] rfl (by (try simp only [List.map_toArray, List.map_cons, List.map_nil]); first | done | rfl | (simp only [List.length_drop, List.length_take]; rfl)) ?_; (with_reducible refine (regletref06_sign.calls x10_14 1 t169 _ A41.out).mono ?_); rintro e w' ⟨rfl, ⟨nd, rfl⟩⟩; refine ⟨_, rfl, ?_⟩; (try (rw [drewN_self w46]; generalize hq_ : World.drewN w46 _ = w46; have n0_ : Aside0 (Kd.R k36 36 w46 w.heap.size (fun k_ => k_ ≠ gb161) u4 x4_1) := ⟨by rw [← hq_]; exact (by (with_reducible repeat (first | apply Kd.R_alloc | apply Kd.R_drewN | apply Kd.R_drew)); exact HO_4.out)⟩; have n1_ : Aside0 (Kd.R Kd.bool 4 w46 w.heap.size (fun _ => True) v157 x5_1) := ⟨by rw [← hq_]; exact (by (with_reducible repeat (first | apply Kd.R_alloc | apply Kd.R_drewN | apply Kd.R_drew)); exact HO_5.out)⟩; have n2_ : Aside0 (w46.heap[gb161]? = some (.cells #[.int .i64 x6_1, .int .i64 (wrap64 (rd l0 x6_1)), .int .i64 0, .int .i64 0] 36 (0, 0))) := ⟨by rw [← hq_]; exact (by (with_reducible repeat (first | refine blk_drewN ?_ _ | refine blk_drew ?_ | refine blk_alloc ?_ _)); exact BK161.out)⟩; have n3_ : Aside0 (Below w.heap.size w w46) := ⟨by rw [← hq_]; exact (by repeat (first | (with_reducible first | exact HB.out | apply below_alloc | apply pw_below_drewN | apply below_drew1 | refine below_set ?_ GE161.out) | exact HB.out))⟩; clear HO_4 HO_5 BK161 HB hq_; have HO_4 := n0_; have HO_5 := n1_; have BK161 := n2_; have HB := n3_; clear n0_ n1_ n2_ n3_)); have hcz47_0 : w46.cell? ⟨gb161, 0, none⟩ = some (.int .i64 x6_1) := (blk_cell BK161.out 0).trans rfl; have hcz47_1 : w46.cell? ⟨gb161, 1, none⟩ = some (.int .i64 (wrap64 (rd l0 x6_1))) := (blk_cell BK161.out 1).trans rfl; have hcz47_2 : w46.cell? ⟨gb161, 2, none⟩ = some (.int .i64 0) := (blk_cell BK161.out 2).trans rfl; have hcz47_3 : w46.cell? ⟨gb161, 3, none⟩ = some (.int .i64 0) := (blk_cell BK161.out 3).trans rfl; have hfz47_0 := blk_frozen BK161.out 0; have hfz47_1 := blk_frozen BK161.out 1; have hfz47_2 := blk_frozen BK161.out 2; have hfz47_3 := blk_frozen BK161.out 3) | ((with_reducible refine gate_store (t := 3) (p := 75) rfl ?_); refine store_event (t := 3) (p := 75) (v := ?vo_w48) (w1 := (w46.setCell ⟨gb161, 2, none⟩ (.int .i64 t169))) ?hg ?ho ?hn ?hr ?_; (case ho => rfl); (case hg => rfl); (case hn => rfl); (case hr => first | (go_simp; done) | (go_simp; rfl)); intro w48 hw; have n0_ : Aside0 (Kd.R k36 36 w48 w.heap.size (fun k_ => k_ ≠ gb161) u4 x4_1) := ⟨(by rw [hw]; exact (by (with_reducible repeat (first | apply Kd.R_alloc | apply Kd.R_drewN | apply Kd.R_drew)); exact Kd.R_mono (Kd.R_far (p := ⟨gb161, 2, none⟩) (Kd.R_mono HO_4.out (fun k_ hk => (⟨hk, hk⟩ : _ ∧ k_ ≠ gb161))) (fun _ hk => hk.2) (.int .i64 t169)) (fun _ hk => hk.1)))⟩; have n1_ : Aside0 (Kd.R Kd.bool 4 w48 w.heap.size (fun _ => True) v157 x5_1) := ⟨(by rw [hw]; exact (by (with_reducible repeat (first | apply Kd.R_alloc | apply Kd.R_drewN | apply Kd.R_drew)); exact Kd.R_mono (Kd.R_far (p := ⟨gb161, 2, none⟩) (Kd.R_types HO_5.out BK161.out (by decide)) (fun _ hk => hk.2) (.int .i64 t169)) (fun _ hk => trivial)))⟩; have n2_ : Aside0 (w48.heap[gb161]? = some (.cells #[.int .i64 x6_1, .int .i64 (wrap64 (rd l0 x6_1)), .int .i64 t169, .int .i64 0] 36 (0, 0))) := ⟨(by rw [hw]; exact (by (with_reducible repeat (first | refine blk_drewN ?_ _ | refine blk_drew ?_ | refine blk_alloc ?_ _)); refine blk_put (cs := #[.int .i64 x6_1, .int .i64 (wrap64 (rd l0 x6_1)), .int .i64 0, .int .i64 0]) ?_ 2 _ rfl; (with_reducible repeat (first | refine blk_drewN ?_ _ | refine blk_drew ?_ | refine blk_alloc ?_ _)); exact BK161.out))⟩; have n3_ : Aside0 (Below w.heap.size w w48) := ⟨(by rw [hw]; exact (by repeat (first | (with_reducible first | exact HB.out | apply below_alloc | apply pw_below_drewN | apply below_drew1 | refine below_set ?_ GE161.out) | exact HB.out)))⟩; clear hw; clear HO_4; clear HO_5; clear BK161; clear HB; have HO_4 := n0_; have HO_5 := n1_; have BK161 := n2_; have HB := n3_; clear n0_ n1_ n2_ n3_; have p44 : 0 ≤ (x6_1 : Int) := of_decide_eq_true (by first | (with_reducible assumption) | assumption); have q44 : (x6_1 : Int) < ((x5_1.length : Int) : Int) := of_decide_eq_true (by first | (with_reducible assumption) | assumption); obtain ⟨go44, co44, eo44, gb44, gl44, cl44, HG44⟩ := Kd.R_form HO_5.out (by omega); (first | cases eo44 | (injection eo44 with ea_ en_ ec_; (first | subst ea_ | (injection ea_ with ea_; subst ea_)); subst ec_; clear en_)); have GB44 := Aside0.mk gb44; have GG44 := Aside0.mk HG44; clear gb44 gl44 HG44; obtain ⟨hx44_0, hf44_0⟩ := Kd.R_celln false HO_5.out (x6_1 : Int) p44 q44; replace p44 := eq_true p44; replace q44 := eq_true q44; obtain ⟨hy49_, hz49_⟩ := Kd.R_celln false HO_5.out (x6_1 : Int) (of_decide_eq_true (by first | (with_reducible assumption) | assumption)) (of_decide_eq_true (by first | (with_reducible assumption) | assumption)); have HP49 := Kd.R_putg HO_5.out (x6_1 : Int) true) | ((with_reducible refine gate_store (t := 4) (p := 102) rfl ?_); refine store_event (t := 4) (p := 102) (v := ?vo_w50) (w1 := (w48.setCell ⟨go44, (x6_1 : Int).toNat, none⟩ (.bool true))) ?hg ?ho ?hn ?hr ?_; (case ho => rfl); (case hg => rfl); (case hn => rfl); (case hr => first | (go_simp; done) | (go_simp; rfl)); intro w50 hw; have hg : w48.grownBy w50 (some go44) := (by rw [hw]; exact HP49.2); have hp_ : Kd.R Kd.bool 4 w50 w.heap.size (fun _ => True) (.slice (some ⟨go44, 0, none⟩) x5_1.length co44) y170 := (by rw [hw, Ny170.out]; exact HP49.1); clear HP49; have n0_ := Aside0.mk (Kd.R_over' (v := (.slice (some ⟨go44, 0, none⟩) x5_1.length co44)) (by (with_reducible repeat (first | apply Kd.R_alloc | apply Kd.R_drewN | apply Kd.R_drew)); exact HO_4.out) (Kd.R_typed HO_5.out) (by decide) hg); have n1_ := Aside0.mk (hp_); have n2_ := Aside0.mk (blk_grown (g := gb161) (o := .cells #[.int .i64 x6_1, .int .i64 (wrap64 (rd l0 x6_1)), .int .i64 t169, .int .i64 0] 36 (0, 0)) (by (with_reducible repeat (first | refine blk_drewN ?_ _ | refine blk_drew ?_ | refine blk_alloc ?_ _)); exact BK161.out) hg (Kd.R_ne HO_5.out BK161.out (by decide))); have n3_ := Aside0.mk ((by rw [hw]; exact below_set (HB.out) GB44.out : Below w.heap.size w w50)); clear HO_4; clear HO_5; clear BK161; clear HB; have HO_4 := n0_; have HO_5 := n1_; have BK161 := n2_; have HB := n3_; clear n0_ n1_ n2_ n3_; clear hg hw hp_; have hcz51_0 : w50.cell? ⟨gb161, 0, none⟩ = some (.int .i64 x6_1) := (blk_cell BK161.out 0).trans rfl; have hcz51_1 : w50.cell? ⟨gb161, 1, none⟩ = some (.int .i64 (wrap64 (rd l0 x6_1))) := (blk_cell BK161.out 1).trans rfl; have hcz51_2 : w50.cell? ⟨gb161, 2, none⟩ = some (.int .i64 t169) := (blk_cell BK161.out 2).trans rfl; have hcz51_3 : w50.cell? ⟨gb161, 3, none⟩ = some (.int .i64 0) := (blk_cell BK161.out 3).trans rfl; have hfz51_0 := blk_frozen BK161.out 0; have hfz51_1 := blk_frozen BK161.out 1; have hfz51_2 := blk_frozen BK161.out 2; have hfz51_3 := blk_frozen BK161.out 3) | ((with_reducible refine gate_builtin (b := .append) (xs := #[.tmp 103, .tmp 105]) rfl ?_); (try (refine gate_guard (by rfl) ?_; dsimp only)); at_builtin; refine Kd.R_append k36 (w0 := w) w.heap.size rfl (.tmp 103) (.tmp 105) 24 36 (.agg #[(.int .i64 0), (.int .i64 0), (.int .i64 0), (.int .i64 0)]) 32 rfl Try.underlying24 info36 rfl (by decide) (by omega) u4 x4_1 (⟨x6_1, (wrap64 (rd l0 x6_1)), t169, 0⟩ : S36) [.int .i64 x6_1, .int .i64 (wrap64 (rd l0 x6_1)), .int .i64 t169, .int .i64 0] (fun k_ => k_ ≠ gb161) (fun _ => False) rfl rfl ?aP (fun _ hk => hk.elim) ?aF ?aO ?aB ?aS ?aL ?_; (case aP => exact k36_mkM _ _ _ (⟨x6_1, (wrap64 (rd l0 x6_1)), t169, 0⟩ : S36)); (case aB => exact (by repeat (first | (with_reducible first | exact HB.out | apply below_alloc | apply pw_below_drewN | apply below_drew1 | refine below_set ?_ GE161.out) | exact HB.out))); (case aF => exact (fun k_ hk => Kd.freshB (g := gb161) (o := .cells #[.int .i64 x6_1, .int .i64 (wrap64 (rd l0 x6_1)), .int .i64 t169, .int .i64 0] 36 (0, 0)) (by (with_reducible repeat (first | refine blk_drewN ?_ _ | refine blk_drew ?_ | refine blk_alloc ?_ _)); exact BK161.out) k_ hk)); (case aO => exact (by (with_reducible repeat (first | apply Kd.R_alloc | apply Kd.R_drewN | apply Kd.R_drew)); exact HO_4.out)); (case aS => exact (below_size (by repeat (first | (with_reducible first | exact HB.out | apply below_alloc | apply pw_below_drewN | apply below_drew1 | refine below_set ?_ GE161.out) | exact HB.out)))); (case aL => have := LMc45.out; omega); intro v172 w52 ho hb hg hat; rw [← Ny171.out] at ho; have n0_ := Aside0.mk (Kd.R_over' (by (with_reducible repeat (first | apply Kd.R_alloc | apply Kd.R_drewN | apply Kd.R_drew)); exact HO_5.out) (Kd.R_typed (by (with_reducible repeat (first | apply Kd.R_alloc | apply Kd.R_drewN | apply Kd.R_drew)); exact HO_4.out)) (by decide) hg); have n1_ := Aside0.mk (blk_grown (g := gb161) (o := .cells #[.int .i64 x6_1, .int .i64 (wrap64 (rd l0 x6_1)), .int .i64 t169, .int .i64 0] 36 (0, 0)) (by (with_reducible repeat (first | refine blk_drewN ?_ _ | refine blk_drew ?_ | refine blk_alloc ?_ _)); exact BK161.out) hg (Kd.R_away HO_4.out (fun _ hk => hk))); have n2_ := Aside0.mk (hb); have n3_ := Aside0.mk (ho); clear HO_5; clear BK161; clear HB; clear HO_4; have HO_5 := n0_; have BK161 := n1_; have HB := n2_; have HO173 := n3_; clear n0_ n1_ n2_ n3_; clear ho hb hg hat))
                     go_roundg kj21
                     case measure => have := HK1.out; have := HJ10.out; have := HJ14.out; have := HJ21.out; omega
                     case rel => exact ⟨(y171), (y170), (wrap64 (x6_1 + t160)), (by first | rfl | (simp; done) | (simp [*]; done)), H', ⟨by have := HK1.out; have := HJ10.out; have := HJ14.out; have := HJ21.out; omega⟩, ⟨by (with_reducible repeat (first | apply Kd.R_alloc | apply Kd.R_drewN | apply Kd.R_drew)); exact Kd.R_mono HO173.out (fun _ hk => trivial)⟩, ⟨by (with_reducible repeat (first | apply Kd.R_alloc | apply Kd.R_drewN | apply Kd.R_drew)); exact HO_5.out⟩, ⟨by repeat (first | (with_reducible first | exact HB.out | apply below_alloc | apply pw_below_drewN | apply below_drew1 | refine below_set ?_ GE161.out) | exact HB.out)⟩⟩
                    ·rw [if_neg c45] at H
                     exact absurd H (by simp)
                   ·rw [if_neg c43] at H
                    exact absurd H (by simp)
                  ·rw [if_neg c42] at H
                   exact absurd H (by simp)
                 ·rw [if_neg c40] at H
                  have c40b0 : (t164 == 3) = false := beq_eq_false_iff_ne.mpr c40
                  have c40b1 : (t164 != 3) = true := bne_iff_ne.mpr c40
                  by_cases c53 : t164 = 4
                  ·rw [if_pos c53] at H
                   have c53b0 : (t164 == 4) = true := beq_iff_eq.mpr c53
                   have c53b1 : (t164 != 4) = false := bne_eq_false_iff_eq.mpr c53
                   clear c53
                   replace H := Option.bind_eq_some_iff.mp H
                   obtain ⟨t174, A540, H⟩ := H
                   replace H : (if 0 ≤ x6_1 then (if x6_1 < (x5_1.length : Int) then (if x4_1.length < 4398046511104 then (regletref06_Decode.l0 kj21 l0 (x4_1 ++ [(⟨x6_1, (wrap64 (rd l0 x6_1)), t174, 0⟩ : S36)]) (x5_1.set (x6_1 : Int).toNat true) (wrap64 (x6_1 + t160))) else (none)) else (none)) else (none)) = some (r1, r2) := H
                   have A54 := Aside0.mk A540
                   clear A540
                   by_cases c55 : 0 ≤ x6_1
                   ·rw [if_pos c55] at H
                    have c55b0 : decide (0 ≤ x6_1) = true := decide_eq_true c55
                    clear c55
                    by_cases c56 : x6_1 < (x5_1.length : Int)
                    ·rw [if_pos c56] at H
                     have c56b0 : decide (x6_1 < (x5_1.length : Int)) = true := decide_eq_true c56
                     clear c56
                     obtain ⟨y175, hy175⟩ : ∃ y_ : List Bool, y_ = (x5_1.set (x6_1 : Int).toNat true) := ⟨_, rfl⟩
                     replace H : (if x4_1.length < 4398046511104 then (regletref06_Decode.l0 kj21 l0 (x4_1 ++ [(⟨x6_1, (wrap64 (rd l0 x6_1)), t174, 0⟩ : S36)]) y175 (wrap64 (x6_1 + t160))) else (none)) = some (r1, r2) := by first | (rw [hy175]; with_reducible exact H) | (have H2_ := (Option.bind_some _ _).symm.trans H; rw [hy175]; with_reducible exact H2_) | (have H2_ := (Option.bind_some _ _).symm.trans H; with_reducible exact H2_) | with_reducible exact H | (rw [hy175]; exact H) | exact H
                     have Ny175 := Aside0.mk hy175
                     clear hy175
                     by_cases c58 : x4_1.length < 4398046511104
                     ·rw [if_pos c58] at H
                      have LMc58 := Aside0.mk c58
                      clear c58
                      obtain ⟨y176, hy176⟩ : ∃ y_ : List (S36), y_ = (x4_1 ++ [(⟨x6_1, (wrap64 (rd l0 x6_1)), t174, 0⟩ : S36)]) := ⟨_, rfl⟩
                      replace H : (regletref06_Decode.l0 kj21 l0 y176 y175 (wrap64 (x6_1 + t160))) = some (r1, r2) := by first | (rw [hy176]; with_reducible exact H) | (have H2_ := (Option.bind_some _ _).symm.trans H; rw [hy176]; with_reducible exact H2_) | (have H2_ := (Option.bind_some _ _).symm.trans H; with_reducible exact H2_) | with_reducible exact H | (rw [hy176]; exact H) | exact H
                      have Ny176 := Aside0.mk hy176
                      clear hy176
                      have H' := Aside0.mk H
                      clear H
                      go_wp2_with (first | ((with_reducible refine gate_callee (f := 21) rfl ?_); refine goesL_ (some 66) rfl rfl Try.func21 (by kernel_rfl) rfl #[.int .i64 (wrap64 (rd l0 x6_1))] rfl (by (try simp only [List.map_toArray, List.map_cons, List.map_nil]); first | done | rfl | (simp only [List.length_drop, List.length_take]; rfl)) ?_; (with_reducible refine (regletref06_row.calls kj21 (wrap64 (rd l0 x6_1)) t164 _ A27.out).mono ?_); rintro e w59 ⟨rfl, hb⟩; refine ⟨_, rfl, ?_⟩; have n0_ := Aside0.mk (Kd.R_below (by (with_reducible repeat (first | apply Kd.R_alloc | apply Kd.R_drewN | apply Kd.R_drew)); exact HO_4.out) hb); have n1_ := Aside0.mk (Kd.R_below (by (with_reducible repeat (first | apply Kd.R_alloc | apply Kd.R_drewN | apply Kd.R_drew)); exact HO_5.out) hb); have n2_ := Aside0.mk (blk_below (g := gb161) (o := .cells #[.int .i64 x6_1, .int .i64 (wrap64 (rd l0 x6_1)), .int .i64 0, .int .i64 0] 36 (0, 0)) (by (with_reducible repeat (first | refine blk_drewN ?_ _ | refine blk_drew ?_ | refine blk_alloc ?_ _)); exact BK161.out) hb); have n3_ := Aside0.mk (below_step (by repeat (first | (with_reducible first | exact HB.out | apply below_alloc | apply pw_below_drewN | apply below_drew1 | refine below_set ?_ GE161.out) | exact HB.out)) hb); clear HO_4; clear HO_5; clear BK161; clear HB; have HO_4 := n0_; have HO_5 := n1_; have BK161 := n2_; have HB := n3_; clear n0_ n1_ n2_ n3_; (try clear hb); (try clear hb2); (try clear hk); (try clear hi)) | ((with_reducible refine gate_callee (f := 22) rfl ?_); refine goesL_ (some 79) rfl rfl Try.func22 (by kernel_rfl) rfl #[.int .i64 x11_21, .int .i64 2] rfl (by (try simp only [List.map_toArray, List.map_cons, List.map_nil]); first | done | rfl | (simp only [List.length_drop, List.length_take]; rfl)) ?_; (with_reducible refine (regletref06_sign.calls x11_21 2 t174 _ A54.out).mono ?_); rintro e w' ⟨rfl, ⟨nd, rfl⟩⟩; refine ⟨_, rfl, ?_⟩; (try (rw [drewN_self w59]; generalize hq_ : World.drewN w59 _ = w59; have n0_ : Aside0 (Kd.R k36 36 w59 w.heap.size (fun k_ => k_ ≠ gb161) u4 x4_1) := ⟨by rw [← hq_]; exact (by (with_reducible repeat (first | apply Kd.R_alloc | apply Kd.R_drewN | apply Kd.R_drew)); exact HO_4.out)⟩; have n1_ : Aside0 (Kd.R Kd.bool 4 w59 w.heap.size (fun _ => True) v157 x5_1) := ⟨by rw [← hq_]; exact (by (with_reducible repeat (first | apply Kd.R_alloc | apply Kd.R_drewN | apply Kd.R_drew)); exact HO_5.out)⟩; have n2_ : Aside0 (w59.heap[gb161]? = some (.cells #[.int .i64 x6_1, .int .i64 (wrap64 (rd l0 x6_1)), .int .i64 0, .int .i64 0] 36 (0, 0))) := ⟨by rw [← hq_]; exact (by (with_reducible repeat (first | refine blk_drewN ?_ _ | refine blk_drew ?_ | refine blk_alloc ?_ _)); exact BK161.out)⟩; have n3_ : Aside0 (Below w.heap.size w w59) := ⟨by rw [← hq_]; exact (by repeat (first | (with_reducible first | exact HB.out | apply below_alloc | apply pw_below_drewN | apply below_drew1 | refine below_set ?_ GE161.out) | exact HB.out))⟩; clear HO_4 HO_5 BK161 HB hq_; have HO_4 := n0_; have HO_5 := n1_; have BK161 := n2_; have HB := n3_; clear n0_ n1_ n2_ n3_)); have hcz60_0 : w59.cell? ⟨gb161, 0, none⟩ = some (.int .i64 x6_1) := (blk_cell BK161.out 0).trans rfl; have hcz60_1 : w59.cell? ⟨gb161, 1, none⟩ = some (.int .i64 (wrap64 (rd l0 x6_1))) := (blk_cell BK161.out 1).trans rfl; have hcz60_2 : w59.cell? ⟨gb161, 2, none⟩ = some (.int .i64 0) := (blk_cell BK161.out 2).trans rfl; have hcz60_3 : w59.cell? ⟨gb161, 3, none⟩ = some (.int .i64 0) := (blk_cell BK161.out 3).trans rfl; have hfz60_0 := blk_frozen BK161.out 0; have hfz60_1 := blk_frozen BK161.out 1; have hfz60_2 := blk_frozen BK161.out 2; have hfz60_3 := blk_frozen BK161.out 3) | ((with_reducible refine gate_store (t := 3) (p := 80) rfl ?_); refine store_event (t := 3) (p := 80) (v := ?vo_w61) (w1 := (w59.setCell ⟨gb161, 2, none⟩ (.int .i64 t174))) ?hg ?ho ?hn ?hr ?_; (case ho => rfl); (case hg => rfl); (case hn => rfl); (case hr => first | (go_simp; done) | (go_simp; rfl)); intro w61 hw; have n0_ : Aside0 (Kd.R k36 36 w61 w.heap.size (fun k_ => k_ ≠ gb161) u4 x4_1) := ⟨(by rw [hw]; exact (by (with_reducible repeat (first | apply Kd.R_alloc | apply Kd.R_drewN | apply Kd.R_drew)); exact Kd.R_mono (Kd.R_far (p := ⟨gb161, 2, none⟩) (Kd.R_mono HO_4.out (fun k_ hk => (⟨hk, hk⟩ : _ ∧ k_ ≠ gb161))) (fun _ hk => hk.2) (.int .i64 t174)) (fun _ hk => hk.1)))⟩; have n1_ : Aside0 (Kd.R Kd.bool 4 w61 w.heap.size (fun _ => True) v157 x5_1) := ⟨(by rw [hw]; exact (by (with_reducible repeat (first | apply Kd.R_alloc | apply Kd.R_drewN | apply Kd.R_drew)); exact Kd.R_mono (Kd.R_far (p := ⟨gb161, 2, none⟩) (Kd.R_types HO_5.out BK161.out (by decide)) (fun _ hk => hk.2) (.int .i64 t174)) (fun _ hk => trivial)))⟩; have n2_ : Aside0 (w61.heap[gb161]? = some (.cells #[.int .i64 x6_1, .int .i64 (wrap64 (rd l0 x6_1)), .int .i64 t174, .int .i64 0] 36 (0, 0))) := ⟨(by rw [hw]; exact (by (with_reducible repeat (first | refine blk_drewN ?_ _ | refine blk_drew ?_ | refine blk_alloc ?_ _)); refine blk_put (cs := #[.int .i64 x6_1, .int .i64 (wrap64 (rd l0 x6_1)), .int .i64 0, .int .i64 0]) ?_ 2 _ rfl; (with_reducible repeat (first | refine blk_drewN ?_ _ | refine blk_drew ?_ | refine blk_alloc ?_ _)); exact BK161.out))⟩; have n3_ : Aside0 (Below w.heap.size w w61) := ⟨(by rw [hw]; exact (by repeat (first | (with_reducible first | exact HB.out | apply below_alloc | apply pw_below_drewN | apply below_drew1 | refine below_set ?_ GE161.out) | exact HB.out)))⟩; clear hw; clear HO_4; clear HO_5; clear BK161; clear HB; have HO_4 := n0_; have HO_5 := n1_; have BK161 := n2_; have HB := n3_; clear n0_ n1_ n2_ n3_; have p57 : 0 ≤ (x6_1 : Int) := of_decide_eq_true (by first | (with_reducible assumption) | assumption); have q57 : (x6_1 : Int) < ((x5_1.length : Int) : Int) := of_decide_eq_true (by first | (with_reducible assumption) | assumption); obtain ⟨go57, co57, eo57, gb57, gl57, cl57, HG57⟩ := Kd.R_form HO_5.out (by omega); (first | cases eo57 | (injection eo57 with ea_ en_ ec_; (first | subst ea_ | (injection ea_ with ea_; subst ea_)); subst ec_; clear en_)); have GB57 := Aside0.mk gb57; have GG57 := Aside0.mk HG57; clear gb57 gl57 HG57; obtain ⟨hx57_0, hf57_0⟩ := Kd.R_celln false HO_5.out (x6_1 : Int) p57 q57; replace p57 := eq_true p57; replace q57 := eq_true q57; obtain ⟨hy62_, hz62_⟩ := Kd.R_celln false HO_5.out (x6_1 : Int) (of_decide_eq_true (by first | (with_reducible assumption) | assumption)) (of_decide_eq_true (by first | (with_reducible assumption) | assumption)); have HP62 := Kd.R_putg HO_5.out (x6_1 : Int) true) | ((with_reducible refine gate_store (t := 4) (p := 102) rfl ?_); refine store_event (t := 4) (p := 102) (v := ?vo_w63) (w1 := (w61.setCell ⟨go57, (x6_1 : Int).toNat, none⟩ (.bool true))) ?hg ?ho ?hn ?hr ?_; (case ho => rfl); (case hg => rfl); (case hn => rfl); (case hr => first | (go_simp; done) | (go_simp; rfl)); intro w63 hw; have hg : w61.grownBy w63 (some go57) := (by rw [hw]; exact HP62.2); have hp_ : Kd.R Kd.bool 4 w63 w.heap.size (fun _ => True) (.slice (some ⟨go57, 0, none⟩) x5_1.length co57) y175 := (by rw [hw, Ny175.out]; exact HP62.1); clear HP62; have n0_ := Aside0.mk (Kd.R_over' (v := (.slice (some ⟨go57, 0, none⟩) x5_1.length co57)) (by (with_reducible repeat (first | apply Kd.R_alloc | apply Kd.R_drewN | apply Kd.R_drew)); exact HO_4.out) (Kd.R_typed HO_5.out) (by decide) hg); have n1_ := Aside0.mk (hp_); have n2_ := Aside0.mk (blk_grown (g := gb161) (o := .cells #[.int .i64 x6_1, .int .i64 (wrap64 (rd l0 x6_1)), .int .i64 t174, .int .i64 0] 36 (0, 0)) (by (with_reducible repeat (first | refine blk_drewN ?_ _ | refine blk_drew ?_ | refine blk_alloc ?_ _)); exact BK161.out) hg (Kd.R_ne HO_5.out BK161.out (by decide))); have n3_ := Aside0.mk ((by rw [hw]; exact below_set (HB.out) GB57.out : Below w.heap.size w w63)); clear HO_4; clear HO_5; clear BK161; clear HB; have HO_4 := n0_; have HO_5 := n1_; have BK161 := n2_; have HB := n3_; clear n0_ n1_ n2_ n3_; clear hg hw hp_; have hcz64_0 : w63.cell? ⟨gb161, 0, none⟩ = some (.int .i64 x6_1) := (blk_cell BK161.out 0).trans rfl; have hcz64_1 : w63.cell? ⟨gb161, 1, none⟩ = some (.int .i64 (wrap64 (rd l0 x6_1))) := (blk_cell BK161.out 1).trans rfl; have hcz64_2 : w63.cell? ⟨gb161, 2, none⟩ = some (.int .i64 t174) := (blk_cell BK161.out 2).trans rfl; have hcz64_3 : w63.cell? ⟨gb161, 3, none⟩ = some (.int .i64 0) := (blk_cell BK161.out 3).trans rfl; have hfz64_0 := blk_frozen BK161.out 0; have hfz64_1 := blk_frozen BK161.out 1; have hfz64_2 := blk_frozen BK161.out 2; have hfz64_3 := blk_frozen BK161.out 3) | ((with_reducible refine gate_builtin (b := .append) (xs := #[.tmp 103, .tmp 105]) rfl ?_); (try (refine gate_guard (by rfl) ?_; dsimp only)); at_builtin; refine Kd.R_append k36 (w0 := w) w.heap.size rfl (.tmp 103) (.tmp 105) 24 36 (.agg #[(.int .i64 0), (.int .i64 0), (.int .i64 0), (.int .i64 0)]) 32 rfl Try.underlying24 info36 rfl (by decide) (by omega) u4 x4_1 (⟨x6_1, (wrap64 (rd l0 x6_1)), t174, 0⟩ : S36) [.int .i64 x6_1, .int .i64 (wrap64 (rd l0 x6_1)), .int .i64 t174, .int .i64 0] (fun k_ => k_ ≠ gb161) (fun _ => False) rfl rfl ?aP (fun _ hk => hk.elim) ?aF ?aO ?aB ?aS ?aL ?_; (case aP => exact k36_mkM _ _ _ (⟨x6_1, (wrap64 (rd l0 x6_1)), t174, 0⟩ : S36)); (case aB => exact (by repeat (first | (with_reducible first | exact HB.out | apply below_alloc | apply pw_below_drewN | apply below_drew1 | refine below_set ?_ GE161.out) | exact HB.out))); (case aF => exact (fun k_ hk => Kd.freshB (g := gb161) (o := .cells #[.int .i64 x6_1, .int .i64 (wrap64 (rd l0 x6_1)), .int .i64 t174, .int .i64 0] 36 (0, 0)) (by (with_reducible repeat (first | refine blk_drewN ?_ _ | refine blk_drew ?_ | refine blk_alloc ?_ _)); exact BK161.out) k_ hk)); (case aO => exact (by (with_reducible repeat (first | apply Kd.R_alloc | apply Kd.R_drewN | apply Kd.R_drew)); exact HO_4.out)); (case aS => exact (below_size (by repeat (first | (with_reducible first | exact HB.out | apply below_alloc | apply pw_below_drewN | apply below_drew1 | refine below_set ?_ GE161.out) | exact HB.out)))); (case aL => have := LMc58.out; omega); intro v177 w65 ho hb hg hat; rw [← Ny176.out] at ho; have n0_ := Aside0.mk (Kd.R_over' (by (with_reducible repeat (first | apply Kd.R_alloc | apply Kd.R_drewN | apply Kd.R_drew)); exact HO_5.out) (Kd.R_typed (by (with_reducible repeat (first | apply Kd.R_alloc | apply Kd.R_drewN | apply Kd.R_drew)); exact HO_4.out)) (by decide) hg); have n1_ := Aside0.mk (blk_grown (g := gb161) (o := .cells #[.int .i64 x6_1, .int .i64 (wrap64 (rd l0 x6_1)), .int .i64 t174, .int .i64 0] 36 (0, 0)) (by (with_reducible repeat (first | refine blk_drewN ?_ _ | refine blk_drew ?_ | refine blk_alloc ?_ _)); exact BK161.out) hg (Kd.R_away HO_4.out (fun _ hk => hk))); have n2_ := Aside0.mk (hb); have n3_ := Aside0.mk (ho); clear HO_5; clear BK161; clear HB; clear HO_4; have HO_5 := n0_; have BK161 := n1_; have HB := n2_; have HO178 := n3_; clear n0_ n1_ n2_ n3_; clear ho hb hg hat))
                      go_roundg kj21
                      case measure => have := HK1.out; have := HJ10.out; have := HJ14.out; have := HJ21.out; omega
                      case rel => exact ⟨(y176), (y175), (wrap64 (x6_1 + t160)), (by first | rfl | (simp; done) | (simp [*]; done)), H', ⟨by have := HK1.out; have := HJ10.out; have := HJ14.out; have := HJ21.out; omega⟩, ⟨by (with_reducible repeat (first | apply Kd.R_alloc | apply Kd.R_drewN | apply Kd.R_drew)); exact Kd.R_mono HO178.out (fun _ hk => trivial)⟩, ⟨by (with_reducible repeat (first | apply Kd.R_alloc | apply Kd.R_drewN | apply Kd.R_drew)); exact HO_5.out⟩, ⟨by repeat (first | (with_reducible first | exact HB.out | apply below_alloc | apply pw_below_drewN | apply below_drew1 | refine below_set ?_ GE161.out) | exact HB.out)⟩⟩
                     ·rw [if_neg c58] at H
                      exact absurd H (by simp)
                    ·rw [if_neg c56] at H
                     exact absurd H (by simp)
                   ·rw [if_neg c55] at H
                    exact absurd H (by simp)
                  ·rw [if_neg c53] at H
                   have c53b0 : (t164 == 4) = false := beq_eq_false_iff_ne.mpr c53
                   have c53b1 : (t164 != 4) = true := bne_iff_ne.mpr c53
                   by_cases c66 : t164 = 5
                   ·rw [if_pos c66] at H
                    have c66b0 : (t164 == 5) = true := beq_iff_eq.mpr c66
                    have c66b1 : (t164 != 5) = false := bne_eq_false_iff_eq.mpr c66
                    clear c66
                    by_cases c67 : 0 ≤ x6_1
                    ·rw [if_pos c67] at H
                     have c67b0 : decide (0 ≤ x6_1) = true := decide_eq_true c67
                     clear c67
                     by_cases c68 : x6_1 < (x5_1.length : Int)
                     ·rw [if_pos c68] at H
                      have c68b0 : decide (x6_1 < (x5_1.length : Int)) = true := decide_eq_true c68
                      clear c68
                      obtain ⟨y179, hy179⟩ : ∃ y_ : List Bool, y_ = (x5_1.set (x6_1 : Int).toNat true) := ⟨_, rfl⟩
                      replace H : (if x4_1.length < 4398046511104 then (regletref06_Decode.l0 kj21 l0 (x4_1 ++ [(⟨x6_1, (wrap64 (rd l0 x6_1)), x11_21, 0⟩ : S36)]) y179 (wrap64 (x6_1 + t160))) else (none)) = some (r1, r2) := by first | (rw [hy179]; with_reducible exact H) | (have H2_ := (Option.bind_some _ _).symm.trans H; rw [hy179]; with_reducible exact H2_) | (have H2_ := (Option.bind_some _ _).symm.trans H; with_reducible exact H2_) | with_reducible exact H | (rw [hy179]; exact H) | exact H
                      have Ny179 := Aside0.mk hy179
                      clear hy179
                      by_cases c70 : x4_1.length < 4398046511104
                      ·rw [if_pos c70] at H
                       have LMc70 := Aside0.mk c70
                       clear c70
                       obtain ⟨y180, hy180⟩ : ∃ y_ : List (S36), y_ = (x4_1 ++ [(⟨x6_1, (wrap64 (rd l0 x6_1)), x11_21, 0⟩ : S36)]) := ⟨_, rfl⟩
                       replace H : (regletref06_Decode.l0 kj21 l0 y180 y179 (wrap64 (x6_1 + t160))) = some (r1, r2) := by first | (rw [hy180]; with_reducible exact H) | (have H2_ := (Option.bind_some _ _).symm.trans H; rw [hy180]; with_reducible exact H2_) | (have H2_ := (Option.bind_some _ _).symm.trans H; with_reducible exact H2_) | with_reducible exact H | (rw [hy180]; exact H) | exact H
                       have Ny180 := Aside0.mk hy180
                       clear hy180
                       have H' := Aside0.mk H
                       clear H
                       go_wp2_with (first | ((with_reducible refine gate_callee (f := 21) rfl ?_); refine goesL_ (some 66) rfl rfl Try.func21 (by kernel_rfl) rfl #[.int .i64 (wrap64 (rd l0 x6_1))] rfl (by (try simp only [List.map_toArray, List.map_cons, List.map_nil]); first | done | rfl | (simp only [List.length_drop, List.length_take]; rfl)) ?_; (with_reducible refine (regletref06_row.calls kj21 (wrap64 (rd l0 x6_1)) t164 _ A27.out).mono ?_); rintro e w71 ⟨rfl, hb⟩; refine ⟨_, rfl, ?_⟩; have n0_ := Aside0.mk (Kd.R_below (by (with_reducible repeat (first | apply Kd.R_alloc | apply Kd.R_drewN | apply Kd.R_drew)); exact HO_4.out) hb); have n1_ := Aside0.mk (Kd.R_below (by (with_reducible repeat (first | apply Kd.R_alloc | apply Kd.R_drewN | apply Kd.R_drew)); exact HO_5.out) hb); have n2_ := Aside0.mk (blk_below (g := gb161) (o := .cells #[.int .i64 x6_1, .int .i64 (wrap64 (rd l0 x6_1)), .int .i64 0, .int .i64 0] 36 (0, 0)) (by (with_reducible repeat (first | refine blk_drewN ?_ _ | refine blk_drew ?_ | refine blk_alloc ?_ _)); exact BK161.out) hb); have n3_ := Aside0.mk (below_step (by repeat (first | (with_reducible first | exact HB.out | apply below_alloc | apply pw_below_drewN | apply below_drew1 | refine below_set ?_ GE161.out) | exact HB.out)) hb); clear HO_4; clear HO_5; clear BK161; clear HB; have HO_4 := n0_; have HO_5 := n1_; have BK161 := n2_; have HB := n3_; clear n0_ n1_ n2_ n3_; (try clear hb); (try clear hb2); (try clear hk); (try clear hi); have hcz72_0 : w71.cell? ⟨gb161, 0, none⟩ = some (.int .i64 x6_1) := (blk_cell BK161.out 0).trans rfl; have hcz72_1 : w71.cell? ⟨gb161, 1, none⟩ = some (.int .i64 (wrap64 (rd l0 x6_1))) := (blk_cell BK161.out 1).trans rfl; have hcz72_2 : w71.cell? ⟨gb161, 2, none⟩ = some (.int .i64 0) := (blk_cell BK161.out 2).trans rfl; have hcz72_3 : w71.cell? ⟨gb161, 3, none⟩ = some (.int .i64 0) := (blk_cell BK161.out 3).trans rfl; have hfz72_0 := blk_frozen BK161.out 0; have hfz72_1 := blk_frozen BK161.out 1; have hfz72_2 := blk_frozen BK161.out 2; have hfz72_3 := blk_frozen BK161.out 3) | ((with_reducible refine gate_store (t := 3) (p := 84) rfl ?_); refine store_event (t := 3) (p := 84) (v := ?vo_w73) (w1 := (w71.setCell ⟨gb161, 2, none⟩ (.int .i64 x11_21))) ?hg ?ho ?hn ?hr ?_; (case ho => rfl); (case hg => rfl); (case hn => rfl); (case hr => first | (go_simp; done) | (go_simp; rfl)); intro w73 hw; have n0_ : Aside0 (Kd.R k36 36 w73 w.heap.size (fun k_ => k_ ≠ gb161) u4 x4_1) := ⟨(by rw [hw]; exact (by (with_reducible repeat (first | apply Kd.R_alloc | apply Kd.R_drewN | apply Kd.R_drew)); exact Kd.R_mono (Kd.R_far (p := ⟨gb161, 2, none⟩) (Kd.R_mono HO_4.out (fun k_ hk => (⟨hk, hk⟩ : _ ∧ k_ ≠ gb161))) (fun _ hk => hk.2) (.int .i64 x11_21)) (fun _ hk => hk.1)))⟩; have n1_ : Aside0 (Kd.R Kd.bool 4 w73 w.heap.size (fun _ => True) v157 x5_1) := ⟨(by rw [hw]; exact (by (with_reducible repeat (first | apply Kd.R_alloc | apply Kd.R_drewN | apply Kd.R_drew)); exact Kd.R_mono (Kd.R_far (p := ⟨gb161, 2, none⟩) (Kd.R_types HO_5.out BK161.out (by decide)) (fun _ hk => hk.2) (.int .i64 x11_21)) (fun _ hk => trivial)))⟩; have n2_ : Aside0 (w73.heap[gb161]? = some (.cells #[.int .i64 x6_1, .int .i64 (wrap64 (rd l0 x6_1)), .int .i64 x11_21, .int .i64 0] 36 (0, 0))) := ⟨(by rw [hw]; exact (by (with_reducible repeat (first | refine blk_drewN ?_ _ | refine blk_drew ?_ | refine blk_alloc ?_ _)); refine blk_put (cs := #[.int .i64 x6_1, .int .i64 (wrap64 (rd l0 x6_1)), .int .i64 0, .int .i64 0]) ?_ 2 _ rfl; (with_reducible repeat (first | refine blk_drewN ?_ _ | refine blk_drew ?_ | refine blk_alloc ?_ _)); exact BK161.out))⟩; have n3_ : Aside0 (Below w.heap.size w w73) := ⟨(by rw [hw]; exact (by repeat (first | (with_reducible first | exact HB.out | apply below_alloc | apply pw_below_drewN | apply below_drew1 | refine below_set ?_ GE161.out) | exact HB.out)))⟩; clear hw; clear HO_4; clear HO_5; clear BK161; clear HB; have HO_4 := n0_; have HO_5 := n1_; have BK161 := n2_; have HB := n3_; clear n0_ n1_ n2_ n3_; have p69 : 0 ≤ (x6_1 : Int) := of_decide_eq_true (by first | (with_reducible assumption) | assumption); have q69 : (x6_1 : Int) < ((x5_1.length : Int) : Int) := of_decide_eq_true (by first | (with_reducible assumption) | assumption); obtain ⟨go69, co69, eo69, gb69, gl69, cl69, HG69⟩ := Kd.R_form HO_5.out (by omega); (first | cases eo69 | (injection eo69 with ea_ en_ ec_; (first | subst ea_ | (injection ea_ with ea_; subst ea_)); subst ec_; clear en_)); have GB69 := Aside0.mk gb69; have GG69 := Aside0.mk HG69; clear gb69 gl69 HG69; obtain ⟨hx69_0, hf69_0⟩ := Kd.R_celln false HO_5.out (x6_1 : Int) p69 q69; replace p69 := eq_true p69; replace q69 := eq_true q69; obtain ⟨hy74_, hz74_⟩ := Kd.R_celln false HO_5.out (x6_1 : Int) (of_decide_eq_true (by first | (with_reducible assumption) | assumption)) (of_decide_eq_true (by first | (with_reducible assumption) | assumption)); have HP74 := Kd.R_putg HO_5.out (x6_1 : Int) true) | ((with_reducible refine gate_store (t := 4) (p := 102) rfl ?_); refine store_event (t := 4) (p := 102) (v := ?vo_w75) (w1 := (w73.setCell ⟨go69, (x6_1 : Int).toNat, none⟩ (.bool true))) ?hg ?ho ?hn ?hr ?_; (case ho => rfl); (case hg => rfl); (case hn => rfl); (case hr => first | (go_simp; done) | (go_simp; rfl)); intro w75 hw; have hg : w73.grownBy w75 (some go69) := (by rw [hw]; exact HP74.2); have hp_ : Kd.R Kd.bool 4 w75 w.heap.size (fun _ => True) (.slice (some ⟨go69, 0, none⟩) x5_1.length co69) y179 := (by rw [hw, Ny179.out]; exact HP74.1); clear HP74; have n0_ := Aside0.mk (Kd.R_over' (v := (.slice (some ⟨go69, 0, none⟩) x5_1.length co69)) (by (with_reducible repeat (first | apply Kd.R_alloc | apply Kd.R_drewN | apply Kd.R_drew)); exact HO_4.out) (Kd.R_typed HO_5.out) (by decide) hg); have n1_ := Aside0.mk (hp_); have n2_ := Aside0.mk (blk_grown (g := gb161) (o := .cells #[.int .i64 x6_1, .int .i64 (wrap64 (rd l0 x6_1)), .int .i64 x11_21, .int .i64 0] 36 (0, 0)) (by (with_reducible repeat (first | refine blk_drewN ?_ _ | refine blk_drew ?_ | refine blk_alloc ?_ _)); exact BK161.out) hg (Kd.R_ne HO_5.out BK161.out (by decide))); have n3_ := Aside0.mk ((by rw [hw]; exact below_set (HB.out) GB69.out : Below w.heap.size w w75)); clear HO_4; clear HO_5; clear BK161; clear HB; have HO_4 := n0_; have HO_5 := n1_; have BK161 := n2_; have HB := n3_; clear n0_ n1_ n2_ n3_; clear hg hw hp_; have hcz76_0 : w75.cell? ⟨gb161, 0, none⟩ = some (.int .i64 x6_1) := (blk_cell BK161.out 0).trans rfl; have hcz76_1 : w75.cell? ⟨gb161, 1, none⟩ = some (.int .i64 (wrap64 (rd l0 x6_1))) := (blk_cell BK161.out 1).trans rfl; have hcz76_2 : w75.cell? ⟨gb161, 2, none⟩ = some (.int .i64 x11_21) := (blk_cell BK161.out 2).trans rfl; have hcz76_3 : w75.cell? ⟨gb161, 3, none⟩ = some (.int .i64 0) := (blk_cell BK161.out 3).trans rfl; have hfz76_0 := blk_frozen BK161.out 0; have hfz76_1 := blk_frozen BK161.out 1; have hfz76_2 := blk_frozen BK161.out 2; have hfz76_3 := blk_frozen BK161.out 3) | ((with_reducible refine gate_builtin (b := .append) (xs := #[.tmp 103, .tmp 105]) rfl ?_); (try (refine gate_guard (by rfl) ?_; dsimp only)); at_builtin; refine Kd.R_append k36 (w0 := w) w.heap.size rfl (.tmp 103) (.tmp 105) 24 36 (.agg #[(.int .i64 0), (.int .i64 0), (.int .i64 0), (.int .i64 0)]) 32 rfl Try.underlying24 info36 rfl (by decide) (by omega) u4 x4_1 (⟨x6_1, (wrap64 (rd l0 x6_1)), x11_21, 0⟩ : S36) [.int .i64 x6_1, .int .i64 (wrap64 (rd l0 x6_1)), .int .i64 x11_21, .int .i64 0] (fun k_ => k_ ≠ gb161) (fun _ => False) rfl rfl ?aP (fun _ hk => hk.elim) ?aF ?aO ?aB ?aS ?aL ?_; (case aP => exact k36_mkM _ _ _ (⟨x6_1, (wrap64 (rd l0 x6_1)), x11_21, 0⟩ : S36)); (case aB => exact (by repeat (first | (with_reducible first | exact HB.out | apply below_alloc | apply pw_below_drewN | apply below_drew1 | refine below_set ?_ GE161.out) | exact HB.out))); (case aF => exact (fun k_ hk => Kd.freshB (g := gb161) (o := .cells #[.int .i64 x6_1, .int .i64 (wrap64 (rd l0 x6_1)), .int .i64 x11_21, .int .i64 0] 36 (0, 0)) (by (with_reducible repeat (first | refine blk_drewN ?_ _ | refine blk_drew ?_ | refine blk_alloc ?_ _)); exact BK161.out) k_ hk)); (case aO => exact (by (with_reducible repeat (first | apply Kd.R_alloc | apply Kd.R_drewN | apply Kd.R_drew)); exact HO_4.out)); (case aS => exact (below_size (by repeat (first | (with_reducible first | exact HB.out | apply below_alloc | apply pw_below_drewN | apply below_drew1 | refine below_set ?_ GE161.out) | exact HB.out)))); (case aL => have := LMc70.out; omega); intro v181 w77 ho hb hg hat; rw [← Ny180.out] at ho; have n0_ := Aside0.mk (Kd.R_over' (by (with_reducible repeat (first | apply Kd.R_alloc | apply Kd.R_drewN | apply Kd.R_drew)); exact HO_5.out) (Kd.R_typed (by (with_reducible repeat (first | apply Kd.R_alloc | apply Kd.R_drewN | apply Kd.R_drew)); exact HO_4.out)) (by decide) hg); have n1_ := Aside0.mk (blk_grown (g := gb161) (o := .cells #[.int .i64 x6_1, .int .i64 (wrap64 (rd l0 x6_1)), .int .i64 x11_21, .int .i64 0] 36 (0, 0)) (by (with_reducible repeat (first | refine blk_drewN ?_ _ | refine blk_drew ?_ | refine blk_alloc ?_ _)); exact BK161.out) hg (Kd.R_away HO_4.out (fun _ hk => hk))); have n2_ := Aside0.mk (hb); have n3_ := Aside0.mk (ho); clear HO_5; clear BK161; clear HB; clear HO_4; have HO_5 := n0_; have BK161 := n1_; have HB := n2_; have HO182 := n3_; clear n0_ n1_ n2_ n3_; clear ho hb hg hat))
                       go_roundg kj21
                       case measure => have := HK1.out; have := HJ10.out; have := HJ14.out; have := HJ21.out; omega
                       case rel => exact ⟨(y180), (y179), (wrap64 (x6_1 + t160)), (by first | rfl | (simp; done) | (simp [*]; done)), H', ⟨by have := HK1.out; have := HJ10.out; have := HJ14.out; have := HJ21.out; omega⟩, ⟨by (with_reducible repeat (first | apply Kd.R_alloc | apply Kd.R_drewN | apply Kd.R_drew)); exact Kd.R_mono HO182.out (fun _ hk => trivial)⟩, ⟨by (with_reducible repeat (first | apply Kd.R_alloc | apply Kd.R_drewN | apply Kd.R_drew)); exact HO_5.out⟩, ⟨by repeat (first | (with_reducible first | exact HB.out | apply below_alloc | apply pw_below_drewN | apply below_drew1 | refine below_set ?_ GE161.out) | exact HB.out)⟩⟩
                      ·rw [if_neg c70] at H
                       exact absurd H (by simp)
                     ·rw [if_neg c68] at H
                      exact absurd H (by simp)
                    ·rw [if_neg c67] at H
                     exact absurd H (by simp)
                   ·rw [if_neg c66] at H
                    have c66b0 : (t164 == 5) = false := beq_eq_false_iff_ne.mpr c66
                    have c66b1 : (t164 != 5) = true := bne_iff_ne.mpr c66
                    by_cases c78 : t164 = 6
                    ·rw [if_pos c78] at H
                     have c78b0 : (t164 == 6) = true := beq_iff_eq.mpr c78
                     have c78b1 : (t164 != 6) = false := bne_eq_false_iff_eq.mpr c78
                     clear c78
                     replace H := Option.bind_eq_some_iff.mp H
                     obtain ⟨t183, A790, H⟩ := H
                     replace H : (if 0 ≤ x6_1 then (if x6_1 < (x5_1.length : Int) then (if x4_1.length < 4398046511104 then (regletref06_Decode.l0 kj21 l0 (x4_1 ++ [(⟨x6_1, (wrap64 (rd l0 x6_1)), wrap64 (x6_1 + t183), 0⟩ : S36)]) (x5_1.set (x6_1 : Int).toNat true) (wrap64 (x6_1 + t160))) else (none)) else (none)) else (none)) = some (r1, r2) := H
                     have A79 := Aside0.mk A790
                     clear A790
                     by_cases c80 : 0 ≤ x6_1
                     ·rw [if_pos c80] at H
                      have c80b0 : decide (0 ≤ x6_1) = true := decide_eq_true c80
                      clear c80
                      by_cases c81 : x6_1 < (x5_1.length : Int)
                      ·rw [if_pos c81] at H
                       have c81b0 : decide (x6_1 < (x5_1.length : Int)) = true := decide_eq_true c81
                       clear c81
                       obtain ⟨y184, hy184⟩ : ∃ y_ : List Bool, y_ = (x5_1.set (x6_1 : Int).toNat true) := ⟨_, rfl⟩
                       replace H : (if x4_1.length < 4398046511104 then (regletref06_Decode.l0 kj21 l0 (x4_1 ++ [(⟨x6_1, (wrap64 (rd l0 x6_1)), wrap64 (x6_1 + t183), 0⟩ : S36)]) y184 (wrap64 (x6_1 + t160))) else (none)) = some (r1, r2) := by first | (rw [hy184]; with_reducible exact H) | (have H2_ := (Option.bind_some _ _).symm.trans H; rw [hy184]; with_reducible exact H2_) | (have H2_ := (Option.bind_some _ _).symm.trans H; with_reducible exact H2_) | with_reducible exact H | (rw [hy184]; exact H) | exact H
                       have Ny184 := Aside0.mk hy184
                       clear hy184
                       by_cases c83 : x4_1.length < 4398046511104
                       ·rw [if_pos c83] at H
                        have LMc83 := Aside0.mk c83
                        clear c83
                        obtain ⟨y185, hy185⟩ : ∃ y_ : List (S36), y_ = (x4_1 ++ [(⟨x6_1, (wrap64 (rd l0 x6_1)), wrap64 (x6_1 + t183), 0⟩ : S36)]) := ⟨_, rfl⟩
                        replace H : (regletref06_Decode.l0 kj21 l0 y185 y184 (wrap64 (x6_1 + t160))) = some (r1, r2) := by first | (rw [hy185]; with_reducible exact H) | (have H2_ := (Option.bind_some _ _).symm.trans H; rw [hy185]; with_reducible exact H2_) | (have H2_ := (Option.bind_some _ _).symm.trans H; with_reducible exact H2_) | with_reducible exact H | (rw [hy185]; exact H) | exact H
                        have Ny185 := Aside0.mk hy185
                        clear hy185
                        have H' := Aside0.mk H
                        clear H
                        go_wp2_with (first | ((with_reducible refine gate_callee (f := 21) rfl ?_); refine goesL_ (some 66) rfl rfl Try.func21 (by kernel_rfl) rfl #[.int .i64 (wrap64 (rd l0 x6_1))] rfl (by (try simp only [List.map_toArray, List.map_cons, List.map_nil]); first | done | rfl | (simp only [List.length_drop, List.length_take]; rfl)) ?_; (with_reducible refine (regletref06_row.calls kj21 (wrap64 (rd l0 x6_1)) t164 _ A27.out).mono ?_); rintro e w84 ⟨rfl, hb⟩; refine ⟨_, rfl, ?_⟩; have n0_ := Aside0.mk (Kd.R_below (by (with_reducible repeat (first | apply Kd.R_alloc | apply Kd.R_drewN | apply Kd.R_drew)); exact HO_4.out) hb); have n1_ := Aside0.mk (Kd.R_below (by (with_reducible repeat (first | apply Kd.R_alloc | apply Kd.R_drewN | apply Kd.R_drew)); exact HO_5.out) hb); have n2_ := Aside0.mk (blk_below (g := gb161) (o := .cells #[.int .i64 x6_1, .int .i64 (wrap64 (rd l0 x6_1)), .int .i64 0, .int .i64 0] 36 (0, 0)) (by (with_reducible repeat (first | refine blk_drewN ?_ _ | refine blk_drew ?_ | refine blk_alloc ?_ _)); exact BK161.out) hb); have n3_ := Aside0.mk (below_step (by repeat (first | (with_reducible first | exact HB.out | apply below_alloc | apply pw_below_drewN | apply below_drew1 | refine below_set ?_ GE161.out) | exact HB.out)) hb); clear HO_4; clear HO_5; clear BK161; clear HB; have HO_4 := n0_; have HO_5 := n1_; have BK161 := n2_; have HB := n3_; clear n0_ n1_ n2_ n3_; (try clear hb); (try clear hb2); (try clear hk); (try clear hi)) | ((with_reducible refine gate_callee (f := 22) rfl ?_); refine goesL_ (some 89) rfl rfl Try.func22 (by kernel_rfl) rfl #[.int .i64 x11_21, .int .i64 2] rfl (by (try simp only [List.map_toArray, List.map_cons, List.map_nil]); first | done | rfl | (simp only [List.length_drop, List.length_take]; rfl)) ?_; (with_reducible refine (regletref06_sign.calls x11_21 2 t183 _ A79.out).mono ?_); rintro e w' ⟨rfl, ⟨nd, rfl⟩⟩; refine ⟨_, rfl, ?_⟩; (try (rw [drewN_self w84]; generalize hq_ : World.drewN w84 _ = w84; have n0_ : Aside0 (Kd.R k36 36 w84 w.heap.size (fun k_ => k_ ≠ gb161) u4 x4_1) := ⟨by rw [← hq_]; exact (by (with_reducible repeat (first | apply Kd.R_alloc | apply Kd.R_drewN | apply Kd.R_drew)); exact HO_4.out)⟩; have n1_ : Aside0 (Kd.R Kd.bool 4 w84 w.heap.size (fun _ => True) v157 x5_1) := ⟨by rw [← hq_]; exact (by (with_reducible repeat (first | apply Kd.R_alloc | apply Kd.R_drewN | apply Kd.R_drew)); exact HO_5.out)⟩; have n2_ : Aside0 (w84.heap[gb161]? = some (.cells #[.int .i64 x6_1, .int .i64 (wrap64 (rd l0 x6_1)), .int .i64 0, .int .i64 0] 36 (0, 0))) := ⟨by rw [← hq_]; exact (by (with_reducible repeat (first | refine blk_drewN ?_ _ | refine blk_drew ?_ | refine blk_alloc ?_ _)); exact BK161.out)⟩; have n3_ : Aside0 (Below w.heap.size w w84) := ⟨by rw [← hq_]; exact (by repeat (first | (with_reducible first | exact HB.out | apply below_alloc | apply pw_below_drewN | apply below_drew1 | refine below_set ?_ GE161.out) | exact HB.out))⟩; clear HO_4 HO_5 BK161 HB hq_; have HO_4 := n0_; have HO_5 := n1_; have BK161 := n2_; have HB := n3_; clear n0_ n1_ n2_ n3_)); have hcz85_0 : w84.cell? ⟨gb161, 0, none⟩ = some (.int .i64 x6_1) := (blk_cell BK161.out 0).trans rfl; have hcz85_1 : w84.cell? ⟨gb161, 1, none⟩ = some (.int .i64 (wrap64 (rd l0 x6_1))) := (blk_cell BK161.out 1).trans rfl; have hcz85_2 : w84.cell? ⟨gb161, 2, none⟩ = some (.int .i64 0) := (blk_cell BK161.out 2).trans rfl; have hcz85_3 : w84.cell? ⟨gb161, 3, none⟩ = some (.int .i64 0) := (blk_cell BK161.out 3).trans rfl; have hfz85_0 := blk_frozen BK161.out 0; have hfz85_1 := blk_frozen BK161.out 1; have hfz85_2 := blk_frozen BK161.out 2; have hfz85_3 := blk_frozen BK161.out 3) | ((with_reducible refine gate_store (t := 3) (p := 91) rfl ?_); refine store_event (t := 3) (p := 91) (v := ?vo_w86) (w1 := (w84.setCell ⟨gb161, 2, none⟩ (.int .i64 (wrap64 (x6_1 + t183))))) ?hg ?ho ?hn ?hr ?_; (case ho => rfl); (case hg => rfl); (case hn => rfl); (case hr => first | (go_simp; done) | (go_simp; rfl)); intro w86 hw; have n0_ : Aside0 (Kd.R k36 36 w86 w.heap.size (fun k_ => k_ ≠ gb161) u4 x4_1) := ⟨(by rw [hw]; exact (by (with_reducible repeat (first | apply Kd.R_alloc | apply Kd.R_drewN | apply Kd.R_drew)); exact Kd.R_mono (Kd.R_far (p := ⟨gb161, 2, none⟩) (Kd.R_mono HO_4.out (fun k_ hk => (⟨hk, hk⟩ : _ ∧ k_ ≠ gb161))) (fun _ hk => hk.2) (.int .i64 (wrap64 (x6_1 + t183)))) (fun _ hk => hk.1)))⟩; have n1_ : Aside0 (Kd.R Kd.bool 4 w86 w.heap.size (fun _ => True) v157 x5_1) := ⟨(by rw [hw]; exact (by (with_reducible repeat (first | apply Kd.R_alloc | apply Kd.R_drewN | apply Kd.R_drew)); exact Kd.R_mono (Kd.R_far (p := ⟨gb161, 2, none⟩) (Kd.R_types HO_5.out BK161.out (by decide)) (fun _ hk => hk.2) (.int .i64 (wrap64 (x6_1 + t183)))) (fun _ hk => trivial)))⟩; have n2_ : Aside0 (w86.heap[gb161]? = some (.cells #[.int .i64 x6_1, .int .i64 (wrap64 (rd l0 x6_1)), .int .i64 (wrap64 (x6_1 + t183)), .int .i64 0] 36 (0, 0))) := ⟨(by rw [hw]; exact (by (with_reducible repeat (first | refine blk_drewN ?_ _ | refine blk_drew ?_ | refine blk_alloc ?_ _)); refine blk_put (cs := #[.int .i64 x6_1, .int .i64 (wrap64 (rd l0 x6_1)), .int .i64 0, .int .i64 0]) ?_ 2 _ rfl; (with_reducible repeat (first | refine blk_drewN ?_ _ | refine blk_drew ?_ | refine blk_alloc ?_ _)); exact BK161.out))⟩; have n3_ : Aside0 (Below w.heap.size w w86) := ⟨(by rw [hw]; exact (by repeat (first | (with_reducible first | exact HB.out | apply below_alloc | apply pw_below_drewN | apply below_drew1 | refine below_set ?_ GE161.out) | exact HB.out)))⟩; clear hw; clear HO_4; clear HO_5; clear BK161; clear HB; have HO_4 := n0_; have HO_5 := n1_; have BK161 := n2_; have HB := n3_; clear n0_ n1_ n2_ n3_; have p82 : 0 ≤ (x6_1 : Int) := of_decide_eq_true (by first | (with_reducible assumption) | assumption); have q82 : (x6_1 : Int) < ((x5_1.length : Int) : Int) := of_decide_eq_true (by first | (with_reducible assumption) | assumption); obtain ⟨go82, co82, eo82, gb82, gl82, cl82, HG82⟩ := Kd.R_form HO_5.out (by omega); (first | cases eo82 | (injection eo82 with ea_ en_ ec_; (first | subst ea_ | (injection ea_ with ea_; subst ea_)); subst ec_; clear en_)); have GB82 := Aside0.mk gb82; have GG82 := Aside0.mk HG82; clear gb82 gl82 HG82; obtain ⟨hx82_0, hf82_0⟩ := Kd.R_celln false HO_5.out (x6_1 : Int) p82 q82; replace p82 := eq_true p82; replace q82 := eq_true q82; obtain ⟨hy87_, hz87_⟩ := Kd.R_celln false HO_5.out (x6_1 : Int) (of_decide_eq_true (by first | (with_reducible assumption) | assumption)) (of_decide_eq_true (by first | (with_reducible assumption) | assumption)); have HP87 := Kd.R_putg HO_5.out (x6_1 : Int) true) | ((with_reducible refine gate_store (t := 4) (p := 102) rfl ?_); refine store_event (t := 4) (p := 102) (v := ?vo_w88) (w1 := (w86.setCell ⟨go82, (x6_1 : Int).toNat, none⟩ (.bool true))) ?hg ?ho ?hn ?hr ?_; (case ho => rfl); (case hg => rfl); (case hn => rfl); (case hr => first | (go_simp; done) | (go_simp; rfl)); intro w88 hw; have hg : w86.grownBy w88 (some go82) := (by rw [hw]; exact HP87.2); have hp_ : Kd.R Kd.bool 4 w88 w.heap.size (fun _ => True) (.slice (some ⟨go82, 0, none⟩) x5_1.length co82) y184 := (by rw [hw, Ny184.out]; exact HP87.1); clear HP87; have n0_ := Aside0.mk (Kd.R_over' (v := (.slice (some ⟨go82, 0, none⟩) x5_1.length co82)) (by (with_reducible repeat (first | apply Kd.R_alloc | apply Kd.R_drewN | apply Kd.R_drew)); exact HO_4.out) (Kd.R_typed HO_5.out) (by decide) hg); have n1_ := Aside0.mk (hp_); have n2_ := Aside0.mk (blk_grown (g := gb161) (o := .cells #[.int .i64 x6_1, .int .i64 (wrap64 (rd l0 x6_1)), .int .i64 (wrap64 (x6_1 + t183)), .int .i64 0] 36 (0, 0)) (by (with_reducible repeat (first | refine blk_drewN ?_ _ | refine blk_drew ?_ | refine blk_alloc ?_ _)); exact BK161.out) hg (Kd.R_ne HO_5.out BK161.out (by decide))); have n3_ := Aside0.mk ((by rw [hw]; exact below_set (HB.out) GB82.out : Below w.heap.size w w88)); clear HO_4; clear HO_5; clear BK161; clear HB; have HO_4 := n0_; have HO_5 := n1_; have BK161 := n2_; have HB := n3_; clear n0_ n1_ n2_ n3_; clear hg hw hp_; have hcz89_0 : w88.cell? ⟨gb161, 0, none⟩ = some (.int .i64 x6_1) := (blk_cell BK161.out 0).trans rfl; have hcz89_1 : w88.cell? ⟨gb161, 1, none⟩ = some (.int .i64 (wrap64 (rd l0 x6_1))) := (blk_cell BK161.out 1).trans rfl; have hcz89_2 : w88.cell? ⟨gb161, 2, none⟩ = some (.int .i64 (wrap64 (x6_1 + t183))) := (blk_cell BK161.out 2).trans rfl; have hcz89_3 : w88.cell? ⟨gb161, 3, none⟩ = some (.int .i64 0) := (blk_cell BK161.out 3).trans rfl; have hfz89_0 := blk_frozen BK161.out 0; have hfz89_1 := blk_frozen BK161.out 1; have hfz89_2 := blk_frozen BK161.out 2; have hfz89_3 := blk_frozen BK161.out 3) | ((with_reducible refine gate_builtin (b := .append) (xs := #[.tmp 103, .tmp 105]) rfl ?_); (try (refine gate_guard (by rfl) ?_; dsimp only)); at_builtin; refine Kd.R_append k36 (w0 := w) w.heap.size rfl (.tmp 103) (.tmp 105) 24 36 (.agg #[(.int .i64 0), (.int .i64 0), (.int .i64 0), (.int .i64 0)]) 32 rfl Try.underlying24 info36 rfl (by decide) (by omega) u4 x4_1 (⟨x6_1, (wrap64 (rd l0 x6_1)), wrap64 (x6_1 + t183), 0⟩ : S36) [.int .i64 x6_1, .int .i64 (wrap64 (rd l0 x6_1)), .int .i64 (wrap64 (x6_1 + t183)), .int .i64 0] (fun k_ => k_ ≠ gb161) (fun _ => False) rfl rfl ?aP (fun _ hk => hk.elim) ?aF ?aO ?aB ?aS ?aL ?_; (case aP => exact k36_mkM _ _ _ (⟨x6_1, (wrap64 (rd l0 x6_1)), wrap64 (x6_1 + t183), 0⟩ : S36)); (case aB => exact (by repeat (first | (with_reducible first | exact HB.out | apply below_alloc | apply pw_below_drewN | apply below_drew1 | refine below_set ?_ GE161.out) | exact HB.out))); (case aF => exact (fun k_ hk => Kd.freshB (g := gb161) (o := .cells #[.int .i64 x6_1, .int .i64 (wrap64 (rd l0 x6_1)), .int .i64 (wrap64 (x6_1 + t183)), .int .i64 0] 36 (0, 0)) (by (with_reducible repeat (first | refine blk_drewN ?_ _ | refine blk_drew ?_ | refine blk_alloc ?_ _)); exact BK161.out) k_ hk)); (case aO => exact (by (with_reducible repeat (first | apply Kd.R_alloc | apply Kd.R_drewN | apply Kd.R_drew)); exact HO_4.out)); (case aS => exact (below_size (by repeat (first | (with_reducible first | exact HB.out | apply below_alloc | apply pw_below_drewN | apply below_drew1 | refine below_set ?_ GE161.out) | exact HB.out)))); (case aL => have := LMc83.out; omega); intro v186 w90 ho hb hg hat; rw [← Ny185.out] at ho; have n0_ := Aside0.mk (Kd.R_over' (by (with_reducible repeat (first | apply Kd.R_alloc | apply Kd.R_drewN | apply Kd.R_drew)); exact HO_5.out) (Kd.R_typed (by (with_reducible repeat (first | apply Kd.R_alloc | apply Kd.R_drewN | apply Kd.R_drew)); exact HO_4.out)) (by decide) hg); have n1_ := Aside0.mk (blk_grown (g := gb161) (o := .cells #[.int .i64 x6_1, .int .i64 (wrap64 (rd l0 x6_1)), .int .i64 (wrap64 (x6_1 + t183)), .int .i64 0] 36 (0, 0)) (by (with_reducible repeat (first | refine blk_drewN ?_ _ | refine blk_drew ?_ | refine blk_alloc ?_ _)); exact BK161.out) hg (Kd.R_away HO_4.out (fun _ hk => hk))); have n2_ := Aside0.mk (hb); have n3_ := Aside0.mk (ho); clear HO_5; clear BK161; clear HB; clear HO_4; have HO_5 := n0_; have BK161 := n1_; have HB := n2_; have HO187 := n3_; clear n0_ n1_ n2_ n3_; clear ho hb hg hat))
                        go_roundg kj21
                        case measure => have := HK1.out; have := HJ10.out; have := HJ14.out; have := HJ21.out; omega
                        case rel => exact ⟨(y185), (y184), (wrap64 (x6_1 + t160)), (by first | rfl | (simp; done) | (simp [*]; done)), H', ⟨by have := HK1.out; have := HJ10.out; have := HJ14.out; have := HJ21.out; omega⟩, ⟨by (with_reducible repeat (first | apply Kd.R_alloc | apply Kd.R_drewN | apply Kd.R_drew)); exact Kd.R_mono HO187.out (fun _ hk => trivial)⟩, ⟨by (with_reducible repeat (first | apply Kd.R_alloc | apply Kd.R_drewN | apply Kd.R_drew)); exact HO_5.out⟩, ⟨by repeat (first | (with_reducible first | exact HB.out | apply below_alloc | apply pw_below_drewN | apply below_drew1 | refine below_set ?_ GE161.out) | exact HB.out)⟩⟩
                       ·rw [if_neg c83] at H
                        exact absurd H (by simp)
                      ·rw [if_neg c81] at H
                       exact absurd H (by simp)
                     ·rw [if_neg c80] at H
                      exact absurd H (by simp)
                    ·rw [if_neg c78] at H
                     have c78b0 : (t164 == 6) = false := beq_eq_false_iff_ne.mpr c78
                     have c78b1 : (t164 != 6) = true := bne_iff_ne.mpr c78
                     by_cases c91 : t164 = 7
                     ·rw [if_pos c91] at H
                      have c91b0 : (t164 == 7) = true := beq_iff_eq.mpr c91
                      have c91b1 : (t164 != 7) = false := bne_eq_false_iff_eq.mpr c91
                      clear c91
                      replace H := Option.bind_eq_some_iff.mp H
                      obtain ⟨t188, A920, H⟩ := H
                      replace H : (if 0 ≤ x6_1 then (if x6_1 < (x5_1.length : Int) then (if x4_1.length < 4398046511104 then (regletref06_Decode.l0 kj21 l0 (x4_1 ++ [(⟨x6_1, (wrap64 (rd l0 x6_1)), x10_14, t188⟩ : S36)]) (x5_1.set (x6_1 : Int).toNat true) (wrap64 (x6_1 + t160))) else (none)) else (none)) else (none)) = some (r1, r2) := H
                      have A92 := Aside0.mk A920
                      clear A920
                      by_cases c93 : 0 ≤ x6_1
                      ·rw [if_pos c93] at H
                       have c93b0 : decide (0 ≤ x6_1) = true := decide_eq_true c93
                       clear c93
                       by_cases c94 : x6_1 < (x5_1.length : Int)
                       ·rw [if_pos c94] at H
                        have c94b0 : decide (x6_1 < (x5_1.length : Int)) = true := decide_eq_true c94
                        clear c94
                        obtain ⟨y189, hy189⟩ : ∃ y_ : List Bool, y_ = (x5_1.set (x6_1 : Int).toNat true) := ⟨_, rfl⟩
                        replace H : (if x4_1.length < 4398046511104 then (regletref06_Decode.l0 kj21 l0 (x4_1 ++ [(⟨x6_1, (wrap64 (rd l0 x6_1)), x10_14, t188⟩ : S36)]) y189 (wrap64 (x6_1 + t160))) else (none)) = some (r1, r2) := by first | (rw [hy189]; with_reducible exact H) | (have H2_ := (Option.bind_some _ _).symm.trans H; rw [hy189]; with_reducible exact H2_) | (have H2_ := (Option.bind_some _ _).symm.trans H; with_reducible exact H2_) | with_reducible exact H | (rw [hy189]; exact H) | exact H
                        have Ny189 := Aside0.mk hy189
                        clear hy189
                        by_cases c96 : x4_1.length < 4398046511104
                        ·rw [if_pos c96] at H
                         have LMc96 := Aside0.mk c96
                         clear c96
                         obtain ⟨y190, hy190⟩ : ∃ y_ : List (S36), y_ = (x4_1 ++ [(⟨x6_1, (wrap64 (rd l0 x6_1)), x10_14, t188⟩ : S36)]) := ⟨_, rfl⟩
                         replace H : (regletref06_Decode.l0 kj21 l0 y190 y189 (wrap64 (x6_1 + t160))) = some (r1, r2) := by first | (rw [hy190]; with_reducible exact H) | (have H2_ := (Option.bind_some _ _).symm.trans H; rw [hy190]; with_reducible exact H2_) | (have H2_ := (Option.bind_some _ _).symm.trans H; with_reducible exact H2_) | with_reducible exact H | (rw [hy190]; exact H) | exact H
                         have Ny190 := Aside0.mk hy190
                         clear hy190
                         have H' := Aside0.mk H
                         clear H
                         go_wp2_with (first | ((with_reducible refine gate_callee (f := 21) rfl ?_); refine goesL_ (some 66) rfl rfl Try.func21 (by kernel_rfl) rfl #[.int .i64 (wrap64 (rd l0 x6_1))] rfl (by (try simp only [List.map_toArray, List.map_cons, List.map_nil]); first | done | rfl | (simp only [List.length_drop, List.length_take]; rfl)) ?_; (with_reducible refine (regletref06_row.calls kj21 (wrap64 (rd l0 x6_1)) t164 _ A27.out).mono ?_); rintro e w97 ⟨rfl, hb⟩; refine ⟨_, rfl, ?_⟩; have n0_ := Aside0.mk (Kd.R_below (by (with_reducible repeat (first | apply Kd.R_alloc | apply Kd.R_drewN | apply Kd.R_drew)); exact HO_4.out) hb); have n1_ := Aside0.mk (Kd.R_below (by (with_reducible repeat (first | apply Kd.R_alloc | apply Kd.R_drewN | apply Kd.R_drew)); exact HO_5.out) hb); have n2_ := Aside0.mk (blk_below (g := gb161) (o := .cells #[.int .i64 x6_1, .int .i64 (wrap64 (rd l0 x6_1)), .int .i64 0, .int .i64 0] 36 (0, 0)) (by (with_reducible repeat (first | refine blk_drewN ?_ _ | refine blk_drew ?_ | refine blk_alloc ?_ _)); exact BK161.out) hb); have n3_ := Aside0.mk (below_step (by repeat (first | (with_reducible first | exact HB.out | apply below_alloc | apply pw_below_drewN | apply below_drew1 | refine below_set ?_ GE161.out) | exact HB.out)) hb); clear HO_4; clear HO_5; clear BK161; clear HB; have HO_4 := n0_; have HO_5 := n1_; have BK161 := n2_; have HB := n3_; clear n0_ n1_ n2_ n3_; (try clear hb); (try clear hb2); (try clear hk); (try clear hi); have hcz98_0 : w97.cell? ⟨gb161, 0, none⟩ = some (.int .i64 x6_1) := (blk_cell BK161.out 0).trans rfl; have hcz98_1 : w97.cell? ⟨gb161, 1, none⟩ = some (.int .i64 (wrap64 (rd l0 x6_1))) := (blk_cell BK161.out 1).trans rfl; have hcz98_2 : w97.cell? ⟨gb161, 2, none⟩ = some (.int .i64 0) := (blk_cell BK161.out 2).trans rfl; have hcz98_3 : w97.cell? ⟨gb161, 3, none⟩ = some (.int .i64 0) := (blk_cell BK161.out 3).trans rfl; have hfz98_0 := blk_frozen BK161.out 0; have hfz98_1 := blk_frozen BK161.out 1; have hfz98_2 := blk_frozen BK161.out 2; have hfz98_3 := blk_frozen BK161.out 3) | ((with_reducible refine gate_store (t := 3) (p := 95) rfl ?_); refine store_event (t := 3) (p := 95) (v := ?vo_w99) (w1 := (w97.setCell ⟨gb161, 2, none⟩ (.int .i64 x10_14))) ?hg ?ho ?hn ?hr ?_; (case ho => rfl); (case hg => rfl); (case hn => rfl); (case hr => first | (go_simp; done) | (go_simp; rfl)); intro w99 hw; have n0_ : Aside0 (Kd.R k36 36 w99 w.heap.size (fun k_ => k_ ≠ gb161) u4 x4_1) := ⟨(by rw [hw]; exact (by (with_reducible repeat (first | apply Kd.R_alloc | apply Kd.R_drewN | apply Kd.R_drew)); exact Kd.R_mono (Kd.R_far (p := ⟨gb161, 2, none⟩) (Kd.R_mono HO_4.out (fun k_ hk => (⟨hk, hk⟩ : _ ∧ k_ ≠ gb161))) (fun _ hk => hk.2) (.int .i64 x10_14)) (fun _ hk => hk.1)))⟩; have n1_ : Aside0 (Kd.R Kd.bool 4 w99 w.heap.size (fun _ => True) v157 x5_1) := ⟨(by rw [hw]; exact (by (with_reducible repeat (first | apply Kd.R_alloc | apply Kd.R_drewN | apply Kd.R_drew)); exact Kd.R_mono (Kd.R_far (p := ⟨gb161, 2, none⟩) (Kd.R_types HO_5.out BK161.out (by decide)) (fun _ hk => hk.2) (.int .i64 x10_14)) (fun _ hk => trivial)))⟩; have n2_ : Aside0 (w99.heap[gb161]? = some (.cells #[.int .i64 x6_1, .int .i64 (wrap64 (rd l0 x6_1)), .int .i64 x10_14, .int .i64 0] 36 (0, 0))) := ⟨(by rw [hw]; exact (by (with_reducible repeat (first | refine blk_drewN ?_ _ | refine blk_drew ?_ | refine blk_alloc ?_ _)); refine blk_put (cs := #[.int .i64 x6_1, .int .i64 (wrap64 (rd l0 x6_1)), .int .i64 0, .int .i64 0]) ?_ 2 _ rfl; (with_reducible repeat (first | refine blk_drewN ?_ _ | refine blk_drew ?_ | refine blk_alloc ?_ _)); exact BK161.out))⟩; have n3_ : Aside0 (Below w.heap.size w w99) := ⟨(by rw [hw]; exact (by repeat (first | (with_reducible first | exact HB.out | apply below_alloc | apply pw_below_drewN | apply below_drew1 | refine below_set ?_ GE161.out) | exact HB.out)))⟩; clear hw; clear HO_4; clear HO_5; clear BK161; clear HB; have HO_4 := n0_; have HO_5 := n1_; have BK161 := n2_; have HB := n3_; clear n0_ n1_ n2_ n3_) | ((with_reducible refine gate_callee (f := 22) rfl ?_); refine goesL_ (some 98) rfl rfl Try.func22 (by kernel_rfl) rfl #[.int .i64 (Int.tmod x11_21 256), .int .i64 1] rfl (by (try simp only [List.map_toArray, List.map_cons, List.map_nil]); first | done | rfl | (simp only [List.length_drop, List.length_take]; rfl)) ?_; (with_reducible refine (regletref06_sign.calls (Int.tmod x11_21 256) 1 t188 _ A92.out).mono ?_); rintro e w' ⟨rfl, ⟨nd, rfl⟩⟩; refine ⟨_, rfl, ?_⟩; (try (rw [drewN_self w99]; generalize hq_ : World.drewN w99 _ = w99; have n0_ : Aside0 (Kd.R k36 36 w99 w.heap.size (fun k_ => k_ ≠ gb161) u4 x4_1) := ⟨by rw [← hq_]; exact (by (with_reducible repeat (first | apply Kd.R_alloc | apply Kd.R_drewN | apply Kd.R_drew)); exact HO_4.out)⟩; have n1_ : Aside0 (Kd.R Kd.bool 4 w99 w.heap.size (fun _ => True) v157 x5_1) := ⟨by rw [← hq_]; exact (by (with_reducible repeat (first | apply Kd.R_alloc | apply Kd.R_drewN | apply Kd.R_drew)); exact HO_5.out)⟩; have n2_ : Aside0 (w99.heap[gb161]? = some (.cells #[.int .i64 x6_1, .int .i64 (wrap64 (rd l0 x6_1)), .int .i64 x10_14, .int .i64 0] 36 (0, 0))) := ⟨by rw [← hq_]; exact (by (with_reducible repeat (first | refine blk_drewN ?_ _ | refine blk_drew ?_ | refine blk_alloc ?_ _)); exact BK161.out)⟩; have n3_ : Aside0 (Below w.heap.size w w99) := ⟨by rw [← hq_]; exact (by repeat (first | (with_reducible first | exact HB.out | apply below_alloc | apply pw_below_drewN | apply below_drew1 | refine below_set ?_ GE161.out) | exact HB.out))⟩; clear HO_4 HO_5 BK161 HB hq_; have HO_4 := n0_; have HO_5 := n1_; have BK161 := n2_; have HB := n3_; clear n0_ n1_ n2_ n3_)); have hcz100_0 : w99.cell? ⟨gb161, 0, none⟩ = some (.int .i64 x6_1) := (blk_cell BK161.out 0).trans rfl; have hcz100_1 : w99.cell? ⟨gb161, 1, none⟩ = some (.int .i64 (wrap64 (rd l0 x6_1))) := (blk_cell BK161.out 1).trans rfl; have hcz100_2 : w99.cell? ⟨gb161, 2, none⟩ = some (.int .i64 x10_14) := (blk_cell BK161.out 2).trans rfl; have hcz100_3 : w99.cell? ⟨gb161, 3, none⟩ = some (.int .i64 0) := (blk_cell BK161.out 3).trans rfl; have hfz100_0 := blk_frozen BK161.out 0; have hfz100_1 := blk_frozen BK161.out 1; have hfz100_2 := blk_frozen BK161.out 2; have hfz100_3 := blk_frozen BK161.out 3) | ((with_reducible refine gate_store (t := 3) (p := 99) rfl ?_); refine store_event (t := 3) (p := 99) (v := ?vo_w101) (w1 := (w99.setCell ⟨gb161, 3, none⟩ (.int .i64 t188))) ?hg ?ho ?hn ?hr ?_; (case ho => rfl); (case hg => rfl); (case hn => rfl); (case hr => first | (go_simp; done) | (go_simp; rfl)); intro w101 hw; have n0_ : Aside0 (Kd.R k36 36 w101 w.heap.size (fun k_ => k_ ≠ gb161) u4 x4_1) := ⟨(by rw [hw]; exact (by (with_reducible repeat (first | apply Kd.R_alloc | apply Kd.R_drewN | apply Kd.R_drew)); exact Kd.R_mono (Kd.R_far (p := ⟨gb161, 3, none⟩) (Kd.R_mono HO_4.out (fun k_ hk => (⟨hk, hk⟩ : _ ∧ k_ ≠ gb161))) (fun _ hk => hk.2) (.int .i64 t188)) (fun _ hk => hk.1)))⟩; have n1_ : Aside0 (Kd.R Kd.bool 4 w101 w.heap.size (fun _ => True) v157 x5_1) := ⟨(by rw [hw]; exact (by (with_reducible repeat (first | apply Kd.R_alloc | apply Kd.R_drewN | apply Kd.R_drew)); exact Kd.R_mono (Kd.R_far (p := ⟨gb161, 3, none⟩) (Kd.R_types HO_5.out BK161.out (by decide)) (fun _ hk => hk.2) (.int .i64 t188)) (fun _ hk => trivial)))⟩; have n2_ : Aside0 (w101.heap[gb161]? = some (.cells #[.int .i64 x6_1, .int .i64 (wrap64 (rd l0 x6_1)), .int .i64 x10_14, .int .i64 t188] 36 (0, 0))) := ⟨(by rw [hw]; exact (by (with_reducible repeat (first | refine blk_drewN ?_ _ | refine blk_drew ?_ | refine blk_alloc ?_ _)); refine blk_put (cs := #[.int .i64 x6_1, .int .i64 (wrap64 (rd l0 x6_1)), .int .i64 x10_14, .int .i64 0]) ?_ 3 _ rfl; (with_reducible repeat (first | refine blk_drewN ?_ _ | refine blk_drew ?_ | refine blk_alloc ?_ _)); exact BK161.out))⟩; have n3_ : Aside0 (Below w.heap.size w w101) := ⟨(by rw [hw]; exact (by repeat (first | (with_reducible first | exact HB.out | apply below_alloc | apply pw_below_drewN | apply below_drew1 | refine below_set ?_ GE161.out) | exact HB.out)))⟩; clear hw; clear HO_4; clear HO_5; clear BK161; clear HB; have HO_4 := n0_; have HO_5 := n1_; have BK161 := n2_; have HB := n3_; clear n0_ n1_ n2_ n3_; have p95 : 0 ≤ (x6_1 : Int) := of_decide_eq_true (by first | (with_reducible assumption) | assumption); have q95 : (x6_1 : Int) < ((x5_1.length : Int) : Int) := of_decide_eq_true (by first | (with_reducible assumption) | assumption); obtain ⟨go95, co95, eo95, gb95, gl95, cl95, HG95⟩ := Kd.R_form HO_5.out (by omega); (first | cases eo95 | (injection eo95 with ea_ en_ ec_; (first | subst ea_ | (injection ea_ with ea_; subst ea_)); subst ec_; clear en_)); have GB95 := Aside0.mk gb95; have GG95 := Aside0.mk HG95; clear gb95 gl95 HG95; obtain ⟨hx95_0, hf95_0⟩ := Kd.R_celln false HO_5.out (x6_1 : Int) p95 q95; replace p95 := eq_true p95; replace q95 := eq_true q95; obtain ⟨hy102_, hz102_⟩ := Kd.R_celln false HO_5.out (x6_1 : Int) (of_decide_eq_true (by first | (with_reducible assumption) | assumption)) (of_decide_eq_true (by first | (with_reducible assumption) | assumption)); have HP102 := Kd.R_putg HO_5.out (x6_1 : Int) true) | ((with_reducible refine gate_store (t := 4) (p := 102) rfl ?_); refine store_event (t := 4) (p := 102) (v := ?vo_w103) (w1 := (w101.setCell ⟨go95, (x6_1 : Int).toNat, none⟩ (.bool true))) ?hg ?ho ?hn ?hr ?_; (case ho => rfl); (case hg => rfl); (case hn => rfl); (case hr => first | (go_simp; done) | (go_simp; rfl)); intro w103 hw; have hg : w101.grownBy w103 (some go95) := (by rw [hw]; exact HP102.2); have hp_ : Kd.R Kd.bool 4 w103 w.heap.size (fun _ => True) (.slice (some ⟨go95, 0, none⟩) x5_1.length co95) y189 := (by rw [hw, Ny189.out]; exact HP102.1); clear HP102; have n0_ := Aside0.mk (Kd.R_over' (v := (.slice (some ⟨go95, 0, none⟩) x5_1.length co95)) (by (with_reducible repeat (first | apply Kd.R_alloc | apply Kd.R_drewN | apply Kd.R_drew)); exact HO_4.out) (Kd.R_typed HO_5.out) (by decide) hg); have n1_ := Aside0.mk (hp_); have n2_ := Aside0.mk (blk_grown (g := gb161) (o := .cells #[.int .i64 x6_1, .int .i64 (wrap64 (rd l0 x6_1)), .int .i64 x10_14, .int .i64 t188] 36 (0, 0)) (by (with_reducible repeat (first | refine blk_drewN ?_ _ | refine blk_drew ?_ | refine blk_alloc ?_ _)); exact BK161.out) hg (Kd.R_ne HO_5.out BK161.out (by decide))); have n3_ := Aside0.mk ((by rw [hw]; exact below_set (HB.out) GB95.out : Below w.heap.size w w103)); clear HO_4; clear HO_5; clear BK161; clear HB; have HO_4 := n0_; have HO_5 := n1_; have BK161 := n2_; have HB := n3_; clear n0_ n1_ n2_ n3_; clear hg hw hp_; have hcz104_0 : w103.cell? ⟨gb161, 0, none⟩ = some (.int .i64 x6_1) := (blk_cell BK161.out 0).trans rfl; have hcz104_1 : w103.cell? ⟨gb161, 1, none⟩ = some (.int .i64 (wrap64 (rd l0 x6_1))) := (blk_cell BK161.out 1).trans rfl; have hcz104_2 : w103.cell? ⟨gb161, 2, none⟩ = some (.int .i64 x10_14) := (blk_cell BK161.out 2).trans rfl; have hcz104_3 : w103.cell? ⟨gb161, 3, none⟩ = some (.int .i64 t188) := (blk_cell BK161.out 3).trans rfl; have hfz104_0 := blk_frozen BK161.out 0; have hfz104_1 := blk_frozen BK161.out 1; have hfz104_2 := blk_frozen BK161.out 2; have hfz104_3 := blk_frozen BK161.out 3) | ((with_reducible refine gate_builtin (b := .append) (xs := #[.tmp 103, .tmp 105]) rfl ?_); (try (refine gate_guard (by rfl) ?_; dsimp only)); at_builtin; refine Kd.R_append k36 (w0 := w) w.heap.size rfl (.tmp 103) (.tmp 105) 24 36 (.agg #[(.int .i64 0), (.int .i64 0), (.int .i64 0), (.int .i64 0)]) 32 rfl Try.underlying24 info36 rfl (by decide) (by omega) u4 x4_1 (⟨x6_1, (wrap64 (rd l0 x6_1)), x10_14, t188⟩ : S36) [.int .i64 x6_1, .int .i64 (wrap64 (rd l0 x6_1)), .int .i64 x10_14, .int .i64 t188] (fun k_ => k_ ≠ gb161) (fun _ => False) rfl rfl ?aP (fun _ hk => hk.elim) ?aF ?aO ?aB ?aS ?aL ?_; (case aP => exact k36_mkM _ _ _ (⟨x6_1, (wrap64 (rd l0 x6_1)), x10_14, t188⟩ : S36)); (case aB => exact (by repeat (first | (with_reducible first | exact HB.out | apply below_alloc | apply pw_below_drewN | apply below_drew1 | refine below_set ?_ GE161.out) | exact HB.out))); (case aF => exact (fun k_ hk => Kd.freshB (g := gb161) (o := .cells #[.int .i64 x6_1, .int .i64 (wrap64 (rd l0 x6_1)), .int .i64 x10_14, .int .i64 t188] 36 (0, 0)) (by (with_reducible repeat (first | refine blk_drewN ?_ _ | refine blk_drew ?_ | refine blk_alloc ?_ _)); exact BK161.out) k_ hk)); (case aO => exact (by (with_reducible repeat (first | apply Kd.R_alloc | apply Kd.R_drewN | apply Kd.R_drew)); exact HO_4.out)); (case aS => exact (below_size (by repeat (first | (with_reducible first | exact HB.out | apply below_alloc | apply pw_below_drewN | apply below_drew1 | refine below_set ?_ GE161.out) | exact HB.out)))); (case aL => have := LMc96.out; omega); intro v191 w105 ho hb hg hat; rw [← Ny190.out] at ho; have n0_ := Aside0.mk (Kd.R_over' (by (with_reducible repeat (first | apply Kd.R_alloc | apply Kd.R_drewN | apply Kd.R_drew)); exact HO_5.out) (Kd.R_typed (by (with_reducible repeat (first | apply Kd.R_alloc | apply Kd.R_drewN | apply Kd.R_drew)); exact HO_4.out)) (by decide) hg); have n1_ := Aside0.mk (blk_grown (g := gb161) (o := .cells #[.int .i64 x6_1, .int .i64 (wrap64 (rd l0 x6_1)), .int .i64 x10_14, .int .i64 t188] 36 (0, 0)) (by (with_reducible repeat (first | refine blk_drewN ?_ _ | refine blk_drew ?_ | refine blk_alloc ?_ _)); exact BK161.out) hg (Kd.R_away HO_4.out (fun _ hk => hk))); have n2_ := Aside0.mk (hb); have n3_ := Aside0.mk (ho); clear HO_5; clear BK161; clear HB; clear HO_4; have HO_5 := n0_; have BK161 := n1_; have HB := n2_; have HO192 := n3_; clear n0_ n1_ n2_ n3_; clear ho hb hg hat))
                         go_roundg kj21
                         case measure => have := HK1.out; have := HJ10.out; have := HJ14.out; have := HJ21.out; omega
                         case rel => exact ⟨(y190), (y189), (wrap64 (x6_1 + t160)), (by first | rfl | (simp; done) | (simp [*]; done)), H', ⟨by have := HK1.out; have := HJ10.out; have := HJ14.out; have := HJ21.out; omega⟩, ⟨by (with_reducible repeat (first | apply Kd.R_alloc | apply Kd.R_drewN | apply Kd.R_drew)); exact Kd.R_mono HO192.out (fun _ hk => trivial)⟩, ⟨by (with_reducible repeat (first | apply Kd.R_alloc | apply Kd.R_drewN | apply Kd.R_drew)); exact HO_5.out⟩, ⟨by repeat (first | (with_reducible first | exact HB.out | apply below_alloc | apply pw_below_drewN | apply below_drew1 | refine below_set ?_ GE161.out) | exact HB.out)⟩⟩
                        ·rw [if_neg c96] at H
                         exact absurd H (by simp)
                       ·rw [if_neg c94] at H
                        exact absurd H (by simp)
                      ·rw [if_neg c93] at H
                       exact absurd H (by simp)
                     ·rw [if_neg c91] at H
                      have c91b0 : (t164 == 7) = false := beq_eq_false_iff_ne.mpr c91
                      have c91b1 : (t164 != 7) = true := bne_iff_ne.mpr c91
                      by_cases c106 : 0 ≤ x6_1
                      ·rw [if_pos c106] at H
                       have c106b0 : decide (0 ≤ x6_1) = true := decide_eq_true c106
                       clear c106
                       by_cases c107 : x6_1 < (x5_1.length : Int)
                       ·rw [if_pos c107] at H
                        have c107b0 : decide (x6_1 < (x5_1.length : Int)) = true := decide_eq_true c107
                        clear c107
                        obtain ⟨y193, hy193⟩ : ∃ y_ : List Bool, y_ = (x5_1.set (x6_1 : Int).toNat true) := ⟨_, rfl⟩
                        replace H : (if x4_1.length < 4398046511104 then (regletref06_Decode.l0 kj21 l0 (x4_1 ++ [(⟨x6_1, (wrap64 (rd l0 x6_1)), 0, 0⟩ : S36)]) y193 (wrap64 (x6_1 + t160))) else (none)) = some (r1, r2) := by first | (rw [hy193]; with_reducible exact H) | (have H2_ := (Option.bind_some _ _).symm.trans H; rw [hy193]; with_reducible exact H2_) | (have H2_ := (Option.bind_some _ _).symm.trans H; with_reducible exact H2_) | with_reducible exact H | (rw [hy193]; exact H) | exact H
                        have Ny193 := Aside0.mk hy193
                        clear hy193
                        by_cases c109 : x4_1.length < 4398046511104
                        ·rw [if_pos c109] at H
                         have LMc109 := Aside0.mk c109
                         clear c109
                         obtain ⟨y194, hy194⟩ : ∃ y_ : List (S36), y_ = (x4_1 ++ [(⟨x6_1, (wrap64 (rd l0 x6_1)), 0, 0⟩ : S36)]) := ⟨_, rfl⟩
                         replace H : (regletref06_Decode.l0 kj21 l0 y194 y193 (wrap64 (x6_1 + t160))) = some (r1, r2) := by first | (rw [hy194]; with_reducible exact H) | (have H2_ := (Option.bind_some _ _).symm.trans H; rw [hy194]; with_reducible exact H2_) | (have H2_ := (Option.bind_some _ _).symm.trans H; with_reducible exact H2_) | with_reducible exact H | (rw [hy194]; exact H) | exact H
                         have Ny194 := Aside0.mk hy194
                         clear hy194
                         have H' := Aside0.mk H
                         clear H
                         go_wp2_with (first | ((with_reducible refine gate_callee (f := 21) rfl ?_); refine goesL_ (some 66) rfl rfl Try.func21 (by kernel_rfl) rfl #[.int .i64 (wrap64 (rd l0 x6_1))] rfl (by (try simp only [List.map_toArray, List.map_cons, List.map_nil]); first | done | rfl | (simp only [List.length_drop, List.length_take]; rfl)) ?_; (with_reducible refine (regletref06_row.calls kj21 (wrap64 (rd l0 x6_1)) t164 _ A27.out).mono ?_); rintro e w110 ⟨rfl, hb⟩; refine ⟨_, rfl, ?_⟩; have n0_ := Aside0.mk (Kd.R_below (by (with_reducible repeat (first | apply Kd.R_alloc | apply Kd.R_drewN | apply Kd.R_drew)); exact HO_4.out) hb); have n1_ := Aside0.mk (Kd.R_below (by (with_reducible repeat (first | apply Kd.R_alloc | apply Kd.R_drewN | apply Kd.R_drew)); exact HO_5.out) hb); have n2_ := Aside0.mk (blk_below (g := gb161) (o := .cells #[.int .i64 x6_1, .int .i64 (wrap64 (rd l0 x6_1)), .int .i64 0, .int .i64 0] 36 (0, 0)) (by (with_reducible repeat (first | refine blk_drewN ?_ _ | refine blk_drew ?_ | refine blk_alloc ?_ _)); exact BK161.out) hb); have n3_ := Aside0.mk (below_step (by repeat (first | (with_reducible first | exact HB.out | apply below_alloc | apply pw_below_drewN | apply below_drew1 | refine below_set ?_ GE161.out) | exact HB.out)) hb); clear HO_4; clear HO_5; clear BK161; clear HB; have HO_4 := n0_; have HO_5 := n1_; have BK161 := n2_; have HB := n3_; clear n0_ n1_ n2_ n3_; (try clear hb); (try clear hb2); (try clear hk); (try clear hi); have p108 : 0 ≤ (x6_1 : Int) := of_decide_eq_true (by first | (with_reducible assumption) | assumption); have q108 : (x6_1 : Int) < ((x5_1.length : Int) : Int) := of_decide_eq_true (by first | (with_reducible assumption) | assumption); obtain ⟨go108, co108, eo108, gb108, gl108, cl108, HG108⟩ := Kd.R_form HO_5.out (by omega); (first | cases eo108 | (injection eo108 with ea_ en_ ec_; (first | subst ea_ | (injection ea_ with ea_; subst ea_)); subst ec_; clear en_)); have GB108 := Aside0.mk gb108; have GG108 := Aside0.mk HG108; clear gb108 gl108 HG108; obtain ⟨hx108_0, hf108_0⟩ := Kd.R_celln false HO_5.out (x6_1 : Int) p108 q108; replace p108 := eq_true p108; replace q108 := eq_true q108; obtain ⟨hy111_, hz111_⟩ := Kd.R_celln false HO_5.out (x6_1 : Int) (of_decide_eq_true (by first | (with_reducible assumption) | assumption)) (of_decide_eq_true (by first | (with_reducible assumption) | assumption)); have HP111 := Kd.R_putg HO_5.out (x6_1 : Int) true) | ((with_reducible refine gate_store (t := 4) (p := 102) rfl ?_); refine store_event (t := 4) (p := 102) (v := ?vo_w112) (w1 := (w110.setCell ⟨go108, (x6_1 : Int).toNat, none⟩ (.bool true))) ?hg ?ho ?hn ?hr ?_; (case ho => rfl); (case hg => rfl); (case hn => rfl); (case hr => first | (go_simp; done) | (go_simp; rfl)); intro w112 hw; have hg : w110.grownBy w112 (some go108) := (by rw [hw]; exact HP111.2); have hp_ : Kd.R Kd.bool 4 w112 w.heap.size (fun _ => True) (.slice (some ⟨go108, 0, none⟩) x5_1.length co108) y193 := (by rw [hw, Ny193.out]; exact HP111.1); clear HP111; have n0_ := Aside0.mk (Kd.R_over' (v := (.slice (some ⟨go108, 0, none⟩) x5_1.length co108)) (by (with_reducible repeat (first | apply Kd.R_alloc | apply Kd.R_drewN | apply Kd.R_drew)); exact HO_4.out) (Kd.R_typed HO_5.out) (by decide) hg); have n1_ := Aside0.mk (hp_); have n2_ := Aside0.mk (blk_grown (g := gb161) (o := .cells #[.int .i64 x6_1, .int .i64 (wrap64 (rd l0 x6_1)), .int .i64 0, .int .i64 0] 36 (0, 0)) (by (with_reducible repeat (first | refine blk_drewN ?_ _ | refine blk_drew ?_ | refine blk_alloc ?_ _)); exact BK161.out) hg (Kd.R_ne HO_5.out BK161.out (by decide))); have n3_ := Aside0.mk ((by rw [hw]; exact below_set (HB.out) GB108.out : Below w.heap.size w w112)); clear HO_4; clear HO_5; clear BK161; clear HB; have HO_4 := n0_; have HO_5 := n1_; have BK161 := n2_; have HB := n3_; clear n0_ n1_ n2_ n3_; clear hg hw hp_; have hcz113_0 : w112.cell? ⟨gb161, 0, none⟩ = some (.int .i64 x6_1) := (blk_cell BK161.out 0).trans rfl; have hcz113_1 : w112.cell? ⟨gb161, 1, none⟩ = some (.int .i64 (wrap64 (rd l0 x6_1))) := (blk_cell BK161.out 1).trans rfl; have hcz113_2 : w112.cell? ⟨gb161, 2, none⟩ = some (.int .i64 0) := (blk_cell BK161.out 2).trans rfl; have hcz113_3 : w112.cell? ⟨gb161, 3, none⟩ = some (.int .i64 0) := (blk_cell BK161.out 3).trans rfl; have hfz113_0 := blk_frozen BK161.out 0; have hfz113_1 := blk_frozen BK161.out 1; have hfz113_2 := blk_frozen BK161.out 2; have hfz113_3 := blk_frozen BK161.out 3) | ((with_reducible refine gate_builtin (b := .append) (xs := #[.tmp 103, .tmp 105]) rfl ?_); (try (refine gate_guard (by rfl) ?_; dsimp only)); at_builtin; refine Kd.R_append k36 (w0 := w) w.heap.size rfl (.tmp 103) (.tmp 105) 24 36 (.agg #[(.int .i64 0), (.int .i64 0), (.int .i64 0), (.int .i64 0)]) 32 rfl Try.underlying24 info36 rfl (by decide) (by omega) u4 x4_1 (⟨x6_1, (wrap64 (rd l0 x6_1)), 0, 0⟩ : S36) [.int .i64 x6_1, .int .i64 (wrap64 (rd l0 x6_1)), .int .i64 0, .int .i64 0] (fun k_ => k_ ≠ gb161) (fun _ => False) rfl rfl ?aP (fun _ hk => hk.elim) ?aF ?aO ?aB ?aS ?aL ?_; (case aP => exact k36_mkM _ _ _ (⟨x6_1, (wrap64 (rd l0 x6_1)), 0, 0⟩ : S36)); (case aB => exact (by repeat (first | (with_reducible first | exact HB.out | apply below_alloc | apply pw_below_drewN | apply below_drew1 | refine below_set ?_ GE161.out) | exact HB.out))); (case aF => exact (fun k_ hk => Kd.freshB (g := gb161) (o := .cells #[.int .i64 x6_1, .int .i64 (wrap64 (rd l0 x6_1)), .int .i64 0, .int .i64 0] 36 (0, 0)) (by (with_reducible repeat (first | refine blk_drewN ?_ _ | refine blk_drew ?_ | refine blk_alloc ?_ _)); exact BK161.out) k_ hk)); (case aO => exact (by (with_reducible repeat (first | apply Kd.R_alloc | apply Kd.R_drewN | apply Kd.R_drew)); exact HO_4.out)); (case aS => exact (below_size (by repeat (first | (with_reducible first | exact HB.out | apply below_alloc | apply pw_below_drewN | apply below_drew1 | refine below_set ?_ GE161.out) | exact HB.out)))); (case aL => have := LMc109.out; omega); intro v195 w114 ho hb hg hat; rw [← Ny194.out] at ho; have n0_ := Aside0.mk (Kd.R_over' (by (with_reducible repeat (first | apply Kd.R_alloc | apply Kd.R_drewN | apply Kd.R_drew)); exact HO_5.out) (Kd.R_typed (by (with_reducible repeat (first | apply Kd.R_alloc | apply Kd.R_drewN | apply Kd.R_drew)); exact HO_4.out)) (by decide) hg); have n1_ := Aside0.mk (blk_grown (g := gb161) (o := .cells #[.int .i64 x6_1, .int .i64 (wrap64 (rd l0 x6_1)), .int .i64 0, .int .i64 0] 36 (0, 0)) (by (with_reducible repeat (first | refine blk_drewN ?_ _ | refine blk_drew ?_ | refine blk_alloc ?_ _)); exact BK161.out) hg (Kd.R_away HO_4.out (fun _ hk => hk))); have n2_ := Aside0.mk (hb); have n3_ := Aside0.mk (ho); clear HO_5; clear BK161; clear HB; clear HO_4; have HO_5 := n0_; have BK161 := n1_; have HB := n2_; have HO196 := n3_; clear n0_ n1_ n2_ n3_; clear ho hb hg hat))
                         go_roundg kj21
                         case measure => have := HK1.out; have := HJ10.out; have := HJ14.out; have := HJ21.out; omega
                         case rel => exact ⟨(y194), (y193), (wrap64 (x6_1 + t160)), (by first | rfl | (simp; done) | (simp [*]; done)), H', ⟨by have := HK1.out; have := HJ10.out; have := HJ14.out; have := HJ21.out; omega⟩, ⟨by (with_reducible repeat (first | apply Kd.R_alloc | apply Kd.R_drewN | apply Kd.R_drew)); exact Kd.R_mono HO196.out (fun _ hk => trivial)⟩, ⟨by (with_reducible repeat (first | apply Kd.R_alloc | apply Kd.R_drewN | apply Kd.R_drew)); exact HO_5.out⟩, ⟨by repeat (first | (with_reducible first | exact HB.out | apply below_alloc | apply pw_below_drewN | apply below_drew1 | refine below_set ?_ GE161.out) | exact HB.out)⟩⟩
                        ·rw [if_neg c109] at H
                         exact absurd H (by simp)
                       ·rw [if_neg c107] at H
                        exact absurd H (by simp)
                      ·rw [if_neg c106] at H
                       exact absurd H (by simp)
        ·rw [if_neg c9] at H
         exact absurd H (by simp)
       ·rw [if_neg c8] at H
        have c8b0 : decide (x6_1 < (l0.length : Int)) = false := decide_eq_false c8
        clear c8
        have H' := Aside0.mk H
        clear H
        go_wp2
        go_loopg [12] k1 (fun kq v12 w' => ∃ (x12_2 : Int), v12 = .int .i64 x12_2 ∧ Aside0 (regletref06_Decode.l1 kq l0 x4_1 x5_1 x12_2 = some (r1, r2)) ∧ Aside0 (kq ≤ k1) ∧ Aside0 (Kd.R k36 36 w' w.heap.size (fun _ => True) u4 x4_1) ∧ Aside0 (Kd.R Kd.bool 4 w' w.heap.size (fun _ => True) v157 x5_1) ∧ Aside0 (Below w.heap.size w w'))
        case atStart => exact ⟨(0), (by first | rfl | (simp; done) | (simp [*]; done)), H', ⟨Nat.le_refl _⟩, ⟨by (with_reducible repeat (first | apply Kd.R_alloc | apply Kd.R_drewN | apply Kd.R_drew)); exact HO_4.out⟩, ⟨by (with_reducible repeat (first | apply Kd.R_alloc | apply Kd.R_drewN | apply Kd.R_drew)); exact HO_5.out⟩, ⟨by repeat (first | (with_reducible first | exact HB.out | apply below_alloc | apply pw_below_drewN | apply below_drew1) | exact HB.out)⟩⟩
        case round =>
         clear H'
         try clear c1
         try clear p1
         try clear q1
         try clear hx1
         try clear hf1
         try clear c2
         try clear c2b0
         try clear c2b1
         try clear c2b2
         try clear p2
         try clear c3
         try clear c3b0
         try clear c3b1
         try clear p3
         try clear q3
         try clear hx3
         try clear hf3
         try clear c4
         try clear c4b0
         try clear c4b1
         try clear p4
         try clear q4
         try clear hx4
         try clear hf4
         try clear c5
         try clear c5b0
         try clear c5b1
         try clear p5
         try clear q5
         try clear hx5
         try clear hf5
         try clear c6
         try clear p6
         try clear q6
         try clear hx6
         try clear hf6
         try clear c7
         try clear c8
         try clear c8b0
         try clear p8
         try clear q8
         try clear hx8
         try clear hf8
         try clear c9
         try clear c9b0
         try clear p9
         try clear q9
         try clear hx9
         try clear hf9
         try clear c10
         try clear p10
         try clear q10
         try clear hx10
         try clear hf10
         try clear c13
         try clear c13b0
         try clear c13b1
         try clear c14
         try clear p15
         try clear q15
         try clear hx15
         try clear p16
         try clear q16
         try clear hx16
         try clear c18
         try clear c18b0
         try clear c20
         try clear c20b0
         try clear c21
         try clear c21b0
         try clear c22
         try clear c23
         try clear c23b0
         try clear c25
         try clear c25b0
         try clear c26
         try clear c26b0
         try clear c28
         try clear c28b0
         try clear c28b1
         try clear c29
         try clear c29b0
         try clear c30
         try clear c30b0
         try clear p31
         try clear q31
         try clear hx31
         try clear hf31
         try clear c32
         try clear c40
         try clear c40b0
         try clear c40b1
         try clear c42
         try clear c42b0
         try clear c43
         try clear c43b0
         try clear p44
         try clear q44
         try clear hx44
         try clear hf44
         try clear c45
         try clear c53
         try clear c53b0
         try clear c53b1
         try clear c55
         try clear c55b0
         try clear c56
         try clear c56b0
         try clear p57
         try clear q57
         try clear hx57
         try clear hf57
         try clear c58
         try clear p64
         try clear c66
         try clear c66b0
         try clear c66b1
         try clear c67
         try clear c67b0
         try clear c68
         try clear c68b0
         try clear p69
         try clear q69
         try clear hx69
         try clear hf69
         try clear c70
         try clear c78
         try clear c78b0
         try clear c78b1
         try clear c80
         try clear c80b0
         try clear c81
         try clear c81b0
         try clear p82
         try clear q82
         try clear hx82
         try clear hf82
         try clear c83
         try clear c91
         try clear c91b0
         try clear c91b1
         try clear c93
         try clear c93b0
         try clear c94
         try clear c94b0
         try clear p95
         try clear q95
         try clear hx95
         try clear hf95
         try clear c96
         try clear c106
         try clear c106b0
         try clear c107
         try clear c107b0
         try clear p108
         try clear q108
         try clear hx108
         try clear hf108
         try clear c109
         try clear hcz100_0
         try clear hcz100_1
         try clear hcz100_2
         try clear hcz100_3
         try clear hcz104_0
         try clear hcz104_1
         try clear hcz104_2
         try clear hcz104_3
         try clear hcz113_0
         try clear hcz113_1
         try clear hcz113_2
         try clear hcz113_3
         try clear hcz17_0
         try clear hcz17_1
         try clear hcz17_2
         try clear hcz17_3
         try clear hcz34_0
         try clear hcz34_1
         try clear hcz34_2
         try clear hcz34_3
         try clear hcz38_0
         try clear hcz38_1
         try clear hcz38_2
         try clear hcz38_3
         try clear hcz47_0
         try clear hcz47_1
         try clear hcz47_2
         try clear hcz47_3
         try clear hcz51_0
         try clear hcz51_1
         try clear hcz51_2
         try clear hcz51_3
         try clear hcz60_0
         try clear hcz60_1
         try clear hcz60_2
         try clear hcz60_3
         try clear hcz64_0
         try clear hcz64_1
         try clear hcz64_2
         try clear hcz64_3
         try clear hcz72_0
         try clear hcz72_1
         try clear hcz72_2
         try clear hcz72_3
         try clear hcz76_0
         try clear hcz76_1
         try clear hcz76_2
         try clear hcz76_3
         try clear hcz85_0
         try clear hcz85_1
         try clear hcz85_2
         try clear hcz85_3
         try clear hcz89_0
         try clear hcz89_1
         try clear hcz89_2
         try clear hcz89_3
         try clear hcz98_0
         try clear hcz98_1
         try clear hcz98_2
         try clear hcz98_3
         try clear hfz100_0
         try clear hfz100_1
         try clear hfz100_2
         try clear hfz100_3
         try clear hfz104_0
         try clear hfz104_1
         try clear hfz104_2
         try clear hfz104_3
         try clear hfz113_0
         try clear hfz113_1
         try clear hfz113_2
         try clear hfz113_3
         try clear hfz17_0
         try clear hfz17_1
         try clear hfz17_2
         try clear hfz17_3
         try clear hfz34_0
         try clear hfz34_1
         try clear hfz34_2
         try clear hfz34_3
         try clear hfz38_0
         try clear hfz38_1
         try clear hfz38_2
         try clear hfz38_3
         try clear hfz47_0
         try clear hfz47_1
         try clear hfz47_2
         try clear hfz47_3
         try clear hfz51_0
         try clear hfz51_1
         try clear hfz51_2
         try clear hfz51_3
         try clear hfz60_0
         try clear hfz60_1
         try clear hfz60_2
         try clear hfz60_3
         try clear hfz64_0
         try clear hfz64_1
         try clear hfz64_2
         try clear hfz64_3
         try clear hfz72_0
         try clear hfz72_1
         try clear hfz72_2
         try clear hfz72_3
         try clear hfz76_0
         try clear hfz76_1
         try clear hfz76_2
         try clear hfz76_3
         try clear hfz85_0
         try clear hfz85_1
         try clear hfz85_2
         try clear hfz85_3
         try clear hfz89_0
         try clear hfz89_1
         try clear hfz89_2
         try clear hfz89_3
         try clear hfz98_0
         try clear hfz98_1
         try clear hfz98_2
         try clear hfz98_3
         try clear hx108_0
         try clear hx159_0
         try clear hx162_0
         try clear hx163_0
         try clear hx31_0
         try clear hx44_0
         try clear hx57_0
         try clear hx69_0
         try clear hx82_0
         try clear hx95_0
         try clear p1
         try clear p108
         try clear p15
         try clear p159
         try clear p16
         try clear p162
         try clear p163
         try clear p2
         try clear p31
         try clear p44
         try clear p57
         try clear p6
         try clear p69
         try clear p82
         try clear p95
         try clear q1
         try clear q108
         try clear q15
         try clear q159
         try clear q16
         try clear q162
         try clear q163
         try clear q31
         try clear q44
         try clear q57
         try clear q69
         try clear q82
         try clear q95
         obtain ⟨x12_2, rfl, HA, HK2, HO_4, HO_5, HB⟩ := hrel
         cases gk with
         | zero => exact absurd HA.out (by simp [regletref06_Decode.l1])
         | succ k2 =>
          have H := HA.out
          clear HA
          simp only [regletref06_Decode.l1] at H
          by_cases c115 : x12_2 < (x4_1.length : Int)
          ·rw [if_pos c115] at H
           have c115b0 : decide (x12_2 < (x4_1.length : Int)) = true := decide_eq_true c115
           clear c115
           by_cases c116 : 0 ≤ x12_2
           ·rw [if_pos c116] at H
            have c116b0 : decide (0 ≤ x12_2) = true := decide_eq_true c116
            clear c116
            replace H := Option.bind_eq_some_iff.mp H
            obtain ⟨t198, A1170, H⟩ := H
            replace H : (if t198 = true then (if ((rd_T36 x4_1 x12_2).f2) < 0 then (some (([] : List (S36)), 41)) else (if ((rd_T36 x4_1 x12_2).f2) ≥ (l0.length : Int) then (some (([] : List (S36)), 41)) else (if 0 ≤ ((rd_T36 x4_1 x12_2).f2) then (if ((rd_T36 x4_1 x12_2).f2) < (x5_1.length : Int) then (if (rdOf false x5_1 ((rd_T36 x4_1 x12_2).f2) = true) then (regletref06_Decode.l1 k2 l0 x4_1 x5_1 (wrap64 (x12_2 + 1))) else (some (([] : List (S36)), 41))) else (none)) else (none)))) else (regletref06_Decode.l1 k2 l0 x4_1 x5_1 (wrap64 (x12_2 + 1)))) = some (r1, r2) := H
            have A117 := Aside0.mk A1170
            clear A1170
            by_cases c118 : t198 = true
            ·subst c118
             have H1 : (if ((rd_T36 x4_1 x12_2).f2) < 0 then (some (([] : List (S36)), 41)) else (if ((rd_T36 x4_1 x12_2).f2) ≥ (l0.length : Int) then (some (([] : List (S36)), 41)) else (if 0 ≤ ((rd_T36 x4_1 x12_2).f2) then (if ((rd_T36 x4_1 x12_2).f2) < (x5_1.length : Int) then (if (rdOf false x5_1 ((rd_T36 x4_1 x12_2).f2) = true) then (regletref06_Decode.l1 k2 l0 x4_1 x5_1 (wrap64 (x12_2 + 1))) else (some (([] : List (S36)), 41))) else (none)) else (none)))) = some (r1, r2) := by rw [if_pos rfl] at H; exact H
             clear H
             have H := H1
             clear H1
             by_cases c119 : ((rd_T36 x4_1 x12_2).f2) < 0
             ·rw [if_pos c119] at H
              have c119b0 : decide (((rd_T36 x4_1 x12_2).f2) < 0) = true := decide_eq_true c119
              clear c119
              simp only [Option.some.injEq, Prod.mk.injEq] at H
              obtain ⟨rfl, rfl⟩ := H
              obtain ⟨Ao120, co120, eo120⟩ := Kd.R_slice HO_4.out
              subst eo120
              have p197 : 0 ≤ (x12_2 : Int) := of_decide_eq_true (by first | (with_reducible assumption) | assumption)
              have q197 : x12_2 < (x4_1.length : Int) := of_decide_eq_true (by first | (with_reducible assumption) | assumption)
              obtain ⟨ad197, e197, hx197_0, hx197_1, hx197_2, hx197_3⟩ := at_T36 (Kd.R_reads' HO_4.out).2.2 x12_2 p197 q197
              cases e197
              replace p197 := eq_true p197
              replace q197 := eq_true q197
              go_wp2_with (first | ((with_reducible refine gate_callee (f := 15) rfl ?_); refine goesL_ (some 121) rfl rfl Try.func15 (by kernel_rfl) rfl #[.int .i64 ((rd_T36 x4_1 x12_2).f1)] rfl (by (try simp only [List.map_toArray, List.map_cons, List.map_nil]); first | done | rfl | (simp only [List.length_drop, List.length_take]; rfl)) ?_; (with_reducible refine (regletref06_Leads.calls ((rd_T36 x4_1 x12_2).f1) true _ A117.out).mono ?_); rintro e w' ⟨rfl, ⟨nd, rfl⟩⟩; refine ⟨_, rfl, ?_⟩; have p199 : 0 ≤ (x12_2 : Int) := of_decide_eq_true (by first | (with_reducible assumption) | assumption); have q199 : x12_2 < (x4_1.length : Int) := of_decide_eq_true (by first | (with_reducible assumption) | assumption); obtain ⟨ad199, e199, hx199_0, hx199_1, hx199_2, hx199_3⟩ := at_T36 (Kd.R_reads' HO_4.out).2.2 x12_2 p199 q199; obtain rfl : ad197 = ad199 := (by injection e199); replace p199 := eq_true p199; replace q199 := eq_true q199))
              go_ret2
              exact ⟨_, by first | rfl | (simp [errW_none, errW_some] <;> rfl) | (simp [*, errW_none, errW_some] <;> rfl), by first | exact Kd.R_nil _ _ _ _ _ | exact Kd.N_nil _ _ _ _ _ | exact Kd.V_nil _ _ _ _ _ | exact Kd.Q_nil _ _ _ _ _ | exact Kd.S_nil _ _ _ _ _, by repeat (first | (with_reducible first | exact HB.out | apply below_alloc | apply pw_below_drewN | apply below_drew1) | exact HB.out)⟩
             ·rw [if_neg c119] at H
              have c119b0 : decide (((rd_T36 x4_1 x12_2).f2) < 0) = false := decide_eq_false c119
              clear c119
              by_cases c121 : ((rd_T36 x4_1 x12_2).f2) ≥ (l0.length : Int)
              ·rw [if_pos c121] at H
               have c121b0 : decide ((l0.length : Int) ≤ ((rd_T36 x4_1 x12_2).f2)) = true := decide_eq_true c121
               clear c121
               simp only [Option.some.injEq, Prod.mk.injEq] at H
               obtain ⟨rfl, rfl⟩ := H
               obtain ⟨Ao122, co122, eo122⟩ := Kd.R_slice HO_4.out
               subst eo122
               have p197 : 0 ≤ (x12_2 : Int) := of_decide_eq_true (by first | (with_reducible assumption) | assumption)
               have q197 : x12_2 < (x4_1.length : Int) := of_decide_eq_true (by first | (with_reducible assumption) | assumption)
               obtain ⟨ad197, e197, hx197_0, hx197_1, hx197_2, hx197_3⟩ := at_T36 (Kd.R_reads' HO_4.out).2.2 x12_2 p197 q197
               cases e197
               replace p197 := eq_true p197
               replace q197 := eq_true q197
               go_wp2_with (first | ((with_reducible refine gate_callee (f := 15) rfl ?_); refine goesL_ (some 121) rfl rfl Try.func15 (by kernel_rfl) rfl #[.int .i64 ((rd_T36 x4_1 x12_2).f1)] rfl (by (try simp only [List.map_toArray, List.map_cons, List.map_nil]); first | done | rfl | (simp only [List.length_drop, List.length_take]; rfl)) ?_; (with_reducible refine (regletref06_Leads.calls ((rd_T36 x4_1 x12_2).f1) true _ A117.out).mono ?_); rintro e w' ⟨rfl, ⟨nd, rfl⟩⟩; refine ⟨_, rfl, ?_⟩; have p199 : 0 ≤ (x12_2 : Int) := of_decide_eq_true (by first | (with_reducible assumption) | assumption); have q199 : x12_2 < (x4_1.length : Int) := of_decide_eq_true (by first | (with_reducible assumption) | assumption); obtain ⟨ad199, e199, hx199_0, hx199_1, hx199_2, hx199_3⟩ := at_T36 (Kd.R_reads' HO_4.out).2.2 x12_2 p199 q199; obtain rfl : ad197 = ad199 := (by injection e199); replace p199 := eq_true p199; replace q199 := eq_true q199; have p200 : 0 ≤ (x12_2 : Int) := of_decide_eq_true (by first | (with_reducible assumption) | assumption); have q200 : x12_2 < (x4_1.length : Int) := of_decide_eq_true (by first | (with_reducible assumption) | assumption); obtain ⟨ad200, e200, hx200_0, hx200_1, hx200_2, hx200_3⟩ := at_T36 (Kd.R_reads' HO_4.out).2.2 x12_2 p200 q200; obtain rfl : ad197 = ad200 := (by injection e200); replace p200 := eq_true p200; replace q200 := eq_true q200))
               go_ret2
               exact ⟨_, by first | rfl | (simp [errW_none, errW_some] <;> rfl) | (simp [*, errW_none, errW_some] <;> rfl), by first | exact Kd.R_nil _ _ _ _ _ | exact Kd.N_nil _ _ _ _ _ | exact Kd.V_nil _ _ _ _ _ | exact Kd.Q_nil _ _ _ _ _ | exact Kd.S_nil _ _ _ _ _, by repeat (first | (with_reducible first | exact HB.out | apply below_alloc | apply pw_below_drewN | apply below_drew1) | exact HB.out)⟩
              ·rw [if_neg c121] at H
               have c121b0 : decide ((l0.length : Int) ≤ ((rd_T36 x4_1 x12_2).f2)) = false := decide_eq_false c121
               clear c121
               by_cases c123 : 0 ≤ ((rd_T36 x4_1 x12_2).f2)
               ·rw [if_pos c123] at H
                have c123b0 : decide (0 ≤ ((rd_T36 x4_1 x12_2).f2)) = true := decide_eq_true c123
                clear c123
                by_cases c124 : ((rd_T36 x4_1 x12_2).f2) < (x5_1.length : Int)
                ·rw [if_pos c124] at H
                 have c124b0 : decide (((rd_T36 x4_1 x12_2).f2) < (x5_1.length : Int)) = true := decide_eq_true c124
                 clear c124
                 obtain ⟨bq125, hbq125⟩ : ∃ b_ : Bool, b_ = (rdOf false x5_1 ((rd_T36 x4_1 x12_2).f2)) := ⟨_, rfl⟩
                 replace H : (if (bq125 = true) then (regletref06_Decode.l1 k2 l0 x4_1 x5_1 (wrap64 (x12_2 + 1))) else (some (([] : List (S36)), 41))) = some (r1, r2) := by rw [← hbq125] at H; exact H
                 have Nbq125 := Aside0.mk hbq125
                 clear hbq125
                 by_cases c126 : (bq125 = true)
                 ·subst c126
                  have H1 : (regletref06_Decode.l1 k2 l0 x4_1 x5_1 (wrap64 (x12_2 + 1))) = some (r1, r2) := by rw [if_pos rfl] at H; exact H
                  clear H
                  have H := H1
                  clear H1
                  have H' := Aside0.mk H
                  clear H
                  obtain ⟨Ao127, co127, eo127⟩ := Kd.R_slice HO_4.out
                  subst eo127
                  have p197 : 0 ≤ (x12_2 : Int) := of_decide_eq_true (by first | (with_reducible assumption) | assumption)
                  have q197 : x12_2 < (x4_1.length : Int) := of_decide_eq_true (by first | (with_reducible assumption) | assumption)
                  obtain ⟨ad197, e197, hx197_0, hx197_1, hx197_2, hx197_3⟩ := at_T36 (Kd.R_reads' HO_4.out).2.2 x12_2 p197 q197
                  cases e197
                  replace p197 := eq_true p197
                  replace q197 := eq_true q197
                  go_wp2_with (first | ((with_reducible refine gate_callee (f := 15) rfl ?_); refine goesL_ (some 121) rfl rfl Try.func15 (by kernel_rfl) rfl #[.int .i64 ((rd_T36 x4_1 x12_2).f1)] rfl (by (try simp only [List.map_toArray, List.map_cons, List.map_nil]); first | done | rfl | (simp only [List.length_drop, List.length_take]; rfl)) ?_; (with_reducible refine (regletref06_Leads.calls ((rd_T36 x4_1 x12_2).f1) true _ A117.out).mono ?_); rintro e w' ⟨rfl, ⟨nd, rfl⟩⟩; refine ⟨_, rfl, ?_⟩; have p199 : 0 ≤ (x12_2 : Int) := of_decide_eq_true (by first | (with_reducible assumption) | assumption); have q199 : x12_2 < (x4_1.length : Int) := of_decide_eq_true (by first | (with_reducible assumption) | assumption); obtain ⟨ad199, e199, hx199_0, hx199_1, hx199_2, hx199_3⟩ := at_T36 (Kd.R_reads' HO_4.out).2.2 x12_2 p199 q199; obtain rfl : ad197 = ad199 := (by injection e199); replace p199 := eq_true p199; replace q199 := eq_true q199; have p200 : 0 ≤ (x12_2 : Int) := of_decide_eq_true (by first | (with_reducible assumption) | assumption); have q200 : x12_2 < (x4_1.length : Int) := of_decide_eq_true (by first | (with_reducible assumption) | assumption); obtain ⟨ad200, e200, hx200_0, hx200_1, hx200_2, hx200_3⟩ := at_T36 (Kd.R_reads' HO_4.out).2.2 x12_2 p200 q200; obtain rfl : ad197 = ad200 := (by injection e200); replace p200 := eq_true p200; replace q200 := eq_true q200; have p201 : 0 ≤ (x12_2 : Int) := of_decide_eq_true (by first | (with_reducible assumption) | assumption); have q201 : x12_2 < (x4_1.length : Int) := of_decide_eq_true (by first | (with_reducible assumption) | assumption); obtain ⟨ad201, e201, hx201_0, hx201_1, hx201_2, hx201_3⟩ := at_T36 (Kd.R_reads' HO_4.out).2.2 x12_2 p201 q201; obtain rfl : ad197 = ad201 := (by injection e201); replace p201 := eq_true p201; replace q201 := eq_true q201; obtain ⟨Ao128, co128, eo128⟩ := Kd.R_slice HO_5.out; subst eo128; have p202 : 0 ≤ (((rd_T36 x4_1 x12_2).f2) : Int) := of_decide_eq_true (by first | (with_reducible assumption) | assumption); have q202 : ((rd_T36 x4_1 x12_2).f2) < (x5_1.length : Int) := of_decide_eq_true (by first | (with_reducible assumption) | assumption); obtain ⟨ad202, e202, hx202_0⟩ := Kd.at_bool (Kd.R_reads' HO_5.out).2.2 ((rd_T36 x4_1 x12_2).f2) p202 q202; (try rw [← Nbq125.out] at hx202_0); cases e202; replace p202 := eq_true p202; replace q202 := eq_true q202))
                  go_roundg k2
                  case measure => have := HK1.out; have := HK2.out; omega
                  case rel => exact ⟨(wrap64 (x12_2 + 1)), (by first | rfl | (simp; done) | (simp [*]; done)), H', ⟨by have := HK1.out; have := HK2.out; omega⟩, ⟨by (with_reducible repeat (first | apply Kd.R_alloc | apply Kd.R_drewN | apply Kd.R_drew)); exact HO_4.out⟩, ⟨by (with_reducible repeat (first | apply Kd.R_alloc | apply Kd.R_drewN | apply Kd.R_drew)); exact HO_5.out⟩, ⟨by repeat (first | (with_reducible first | exact HB.out | apply below_alloc | apply pw_below_drewN | apply below_drew1) | exact HB.out)⟩⟩
                 ·replace c126 := Bool.eq_false_iff.mpr c126
                  subst c126
                  have H1 : (some (([] : List (S36)), 41)) = some (r1, r2) := by rw [if_neg (show ¬ (false = true) by decide)] at H; exact H
                  clear H
                  have H := H1
                  clear H1
                  simp only [Option.some.injEq, Prod.mk.injEq] at H
                  obtain ⟨rfl, rfl⟩ := H
                  obtain ⟨Ao129, co129, eo129⟩ := Kd.R_slice HO_4.out
                  subst eo129
                  have p197 : 0 ≤ (x12_2 : Int) := of_decide_eq_true (by first | (with_reducible assumption) | assumption)
                  have q197 : x12_2 < (x4_1.length : Int) := of_decide_eq_true (by first | (with_reducible assumption) | assumption)
                  obtain ⟨ad197, e197, hx197_0, hx197_1, hx197_2, hx197_3⟩ := at_T36 (Kd.R_reads' HO_4.out).2.2 x12_2 p197 q197
                  cases e197
                  replace p197 := eq_true p197
                  replace q197 := eq_true q197
                  go_wp2_with (first | ((with_reducible refine gate_callee (f := 15) rfl ?_); refine goesL_ (some 121) rfl rfl Try.func15 (by kernel_rfl) rfl #[.int .i64 ((rd_T36 x4_1 x12_2).f1)] rfl (by (try simp only [List.map_toArray, List.map_cons, List.map_nil]); first | done | rfl | (simp only [List.length_drop, List.length_take]; rfl)) ?_; (with_reducible refine (regletref06_Leads.calls ((rd_T36 x4_1 x12_2).f1) true _ A117.out).mono ?_); rintro e w' ⟨rfl, ⟨nd, rfl⟩⟩; refine ⟨_, rfl, ?_⟩; have p199 : 0 ≤ (x12_2 : Int) := of_decide_eq_true (by first | (with_reducible assumption) | assumption); have q199 : x12_2 < (x4_1.length : Int) := of_decide_eq_true (by first | (with_reducible assumption) | assumption); obtain ⟨ad199, e199, hx199_0, hx199_1, hx199_2, hx199_3⟩ := at_T36 (Kd.R_reads' HO_4.out).2.2 x12_2 p199 q199; obtain rfl : ad197 = ad199 := (by injection e199); replace p199 := eq_true p199; replace q199 := eq_true q199; have p200 : 0 ≤ (x12_2 : Int) := of_decide_eq_true (by first | (with_reducible assumption) | assumption); have q200 : x12_2 < (x4_1.length : Int) := of_decide_eq_true (by first | (with_reducible assumption) | assumption); obtain ⟨ad200, e200, hx200_0, hx200_1, hx200_2, hx200_3⟩ := at_T36 (Kd.R_reads' HO_4.out).2.2 x12_2 p200 q200; obtain rfl : ad197 = ad200 := (by injection e200); replace p200 := eq_true p200; replace q200 := eq_true q200; have p201 : 0 ≤ (x12_2 : Int) := of_decide_eq_true (by first | (with_reducible assumption) | assumption); have q201 : x12_2 < (x4_1.length : Int) := of_decide_eq_true (by first | (with_reducible assumption) | assumption); obtain ⟨ad201, e201, hx201_0, hx201_1, hx201_2, hx201_3⟩ := at_T36 (Kd.R_reads' HO_4.out).2.2 x12_2 p201 q201; obtain rfl : ad197 = ad201 := (by injection e201); replace p201 := eq_true p201; replace q201 := eq_true q201; obtain ⟨Ao130, co130, eo130⟩ := Kd.R_slice HO_5.out; subst eo130; have p202 : 0 ≤ (((rd_T36 x4_1 x12_2).f2) : Int) := of_decide_eq_true (by first | (with_reducible assumption) | assumption); have q202 : ((rd_T36 x4_1 x12_2).f2) < (x5_1.length : Int) := of_decide_eq_true (by first | (with_reducible assumption) | assumption); obtain ⟨ad202, e202, hx202_0⟩ := Kd.at_bool (Kd.R_reads' HO_5.out).2.2 ((rd_T36 x4_1 x12_2).f2) p202 q202; (try rw [← Nbq125.out] at hx202_0); cases e202; replace p202 := eq_true p202; replace q202 := eq_true q202))
                  go_ret2
                  exact ⟨_, by first | rfl | (simp [errW_none, errW_some] <;> rfl) | (simp [*, errW_none, errW_some] <;> rfl), by first | exact Kd.R_nil _ _ _ _ _ | exact Kd.N_nil _ _ _ _ _ | exact Kd.V_nil _ _ _ _ _ | exact Kd.Q_nil _ _ _ _ _ | exact Kd.S_nil _ _ _ _ _, by repeat (first | (with_reducible first | exact HB.out | apply below_alloc | apply pw_below_drewN | apply below_drew1) | exact HB.out)⟩
                ·rw [if_neg c124] at H
                 exact absurd H (by simp)
               ·rw [if_neg c123] at H
                exact absurd H (by simp)
            ·replace c118 := Bool.eq_false_iff.mpr c118
             subst c118
             have H1 : (regletref06_Decode.l1 k2 l0 x4_1 x5_1 (wrap64 (x12_2 + 1))) = some (r1, r2) := by rw [if_neg (show ¬ (false = true) by decide)] at H; exact H
             clear H
             have H := H1
             clear H1
             have H' := Aside0.mk H
             clear H
             obtain ⟨Ao131, co131, eo131⟩ := Kd.R_slice HO_4.out
             subst eo131
             have p197 : 0 ≤ (x12_2 : Int) := of_decide_eq_true (by first | (with_reducible assumption) | assumption)
             have q197 : x12_2 < (x4_1.length : Int) := of_decide_eq_true (by first | (with_reducible assumption) | assumption)
             obtain ⟨ad197, e197, hx197_0, hx197_1, hx197_2, hx197_3⟩ := at_T36 (Kd.R_reads' HO_4.out).2.2 x12_2 p197 q197
             cases e197
             replace p197 := eq_true p197
             replace q197 := eq_true q197
             go_wp2_with (first | ((with_reducible refine gate_callee (f := 15) rfl ?_); refine goesL_ (some 121) rfl rfl Try.func15 (by kernel_rfl) rfl #[.int .i64 ((rd_T36 x4_1 x12_2).f1)] rfl (by (try simp only [List.map_toArray, List.map_cons, List.map_nil]); first | done | rfl | (simp only [List.length_drop, List.length_take]; rfl)) ?_; (with_reducible refine (regletref06_Leads.calls ((rd_T36 x4_1 x12_2).f1) false _ A117.out).mono ?_); rintro e w' ⟨rfl, ⟨nd, rfl⟩⟩; refine ⟨_, rfl, ?_⟩))
             go_roundg k2
             case measure => have := HK1.out; have := HK2.out; omega
             case rel => exact ⟨(wrap64 (x12_2 + 1)), (by first | rfl | (simp; done) | (simp [*]; done)), H', ⟨by have := HK1.out; have := HK2.out; omega⟩, ⟨by (with_reducible repeat (first | apply Kd.R_alloc | apply Kd.R_drewN | apply Kd.R_drew)); exact HO_4.out⟩, ⟨by (with_reducible repeat (first | apply Kd.R_alloc | apply Kd.R_drewN | apply Kd.R_drew)); exact HO_5.out⟩, ⟨by repeat (first | (with_reducible first | exact HB.out | apply below_alloc | apply pw_below_drewN | apply below_drew1) | exact HB.out)⟩⟩
           ·rw [if_neg c116] at H
            exact absurd H (by simp)
          ·rw [if_neg c115] at H
           have c115b0 : decide (x12_2 < (x4_1.length : Int)) = false := decide_eq_false c115
           clear c115
           simp only [Option.some.injEq, Prod.mk.injEq] at H
           obtain ⟨rfl, rfl⟩ := H
           obtain ⟨Ao132, co132, eo132⟩ := Kd.R_slice HO_4.out
           subst eo132
           go_wp2
           go_ret2
           exact ⟨_, by first | rfl | (simp [errW_none, errW_some] <;> rfl) | (simp [*, errW_none, errW_some] <;> rfl), by (with_reducible repeat (first | apply Kd.R_alloc | apply Kd.R_drewN | apply Kd.R_drew)); exact HO_4.out, by repeat (first | (with_reducible first | exact HB.out | apply below_alloc | apply pw_below_drewN | apply below_drew1) | exact HB.out)⟩
    ·rw [if_neg c5] at H
     exact absurd H (by simp)
   ·rw [if_neg c4] at H
    exact absurd H (by simp)

end Go.Proofs.Ytbicilgcmopidaa.PAll
