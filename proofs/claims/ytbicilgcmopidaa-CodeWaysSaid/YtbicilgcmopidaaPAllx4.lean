-- Printed by this session's own program wip/tools/pp.py (the kit's printer with hooks of the session's); not a text of print.sh.
import Derived.Test.YtbicilgcmopidaaPAllx0
import Derived.Test.YtbicilgcmopidaaPAllx3
namespace Go.Proofs.Ytbicilgcmopidaa.PAll
open Go.RowKit Go.Proofs.YtbicilgcmopidaaW.PrintWords Go.Proofs.YtbicilgcmopidaaW.PrintLast Go.Proofs.YtbicilgcmopidaaW.PrintMore
attribute [local go_sem] max2_int min2_int max_two min_two max_three min_three max_four min_four   -- for this text's walks alone
set_option linter.unusedVariables false
set_option linter.unusedSimpArgs false

/-! ### code_Size: function 12 -/
def code_Size.j0 : Nat → Int → Bool → Option (Int)
 | 0, _, _ => none
 | k + 1, x0, x8 => if x8 = true then (some 0) else ((code_shape.f k x0).bind fun t102 => (if t102 = (-1) then (some 0) else (if t102 = 0 then (some 1) else (if t102 = 1 then (some 2) else (if t102 = 2 then (some 2) else (some 3))))))
def code_Size.f (k : Nat) (a0 : Int) : Option (Int) := if a0 < 0 then (code_Size.j0 k a0 true) else (code_Size.j0 k a0 (decide (a0 > 255)))
theorem code_Size.mono_l : ∀ k, (∀ y0 y1, LeO (code_Size.j0 k y0 y1) (code_Size.j0 (k + 1) y0 y1))
 | 0 => fun _ _ r h => by simp [code_Size.j0] at h
 | k + 1 => by
  have ih0 := code_Size.mono_l k
  ·intro y0 y1
   unfold code_Size.j0
   repeat' first
   | (with_reducible exact ih0 _ _)
   | (with_reducible exact code_shape.mono _ _)
   | (with_reducible exact LeO.refl _)
   | (with_reducible exact LeO.none _)
   | (with_reducible refine LeO.ite ?_ ?_)
   | (with_reducible refine LeO.bind ?_ (fun _ => ?_))
   | exact ih0 _ _
   | exact code_shape.mono _ _
   | exact LeO.none _
   | refine LeO.ite ?_ ?_
   | refine LeO.bind ?_ (fun _ => ?_)
theorem code_Size.mono : ∀ a0 k, LeO (code_Size.f k a0) (code_Size.f (k + 1) a0) := by
 intro a0 k
 have ih0 := code_Size.mono_l k
 unfold code_Size.f
 repeat' first
   | (with_reducible exact ih0 _ _)
   | (with_reducible exact code_shape.mono _ _)
   | (with_reducible exact LeO.refl _)
   | (with_reducible exact LeO.none _)
   | (with_reducible refine LeO.ite ?_ ?_)
   | (with_reducible refine LeO.bind ?_ (fun _ => ?_))
   | exact ih0 _ _
   | exact code_shape.mono _ _
   | exact LeO.none _
   | refine LeO.ite ?_ ?_
   | refine LeO.bind ?_ (fun _ => ?_)
set_option maxHeartbeats 8000000 in
set_option maxRecDepth 100000 in
theorem code_Size.calls (k : Nat) (a0 : Int) (r : Int) (w : World) (h : code_Size.f k a0 = some r) :
  Calls Try.prog 12 #[.int .i64 a0] w fun e w' => e = .returned (.int .i64 r) ∧ Drawn0 w w' := by
 have H : (if a0 < 0 then (code_Size.j0 k a0 true) else (code_Size.j0 k a0 (decide (a0 > 255)))) = some r := h
 clear h
 have HC2 := Aside0.mk H
 clear H
 go_enter Try.func12, Try.ntmps12
 go_upto_region 1 with (fail)
 go_cut [8] (fun v8 wc => ∃ (kq : Nat) (x8_1 : Bool), v8 = .bool x8_1 ∧ Aside0 (code_Size.j0 kq a0 x8_1 = some r) ∧ Aside0 (kq ≤ k) ∧ Drawn0 w wc)
 case first =>
  have H := HC2.out
  clear HC2
  by_cases c3 : a0 < 0
  ·rw [if_pos c3] at H
   have c3b0 : decide (a0 < 0) = true := decide_eq_true c3
   clear c3
   (first | rw [c3b0] | (simp only [i64_w, i32_w]; rw [c3b0]) | skip)
   have H' := Aside0.mk H
   clear H
   go_wp2
   go_meet
   case rel => exact ⟨_, (true), (by first | rfl | (simp; done) | (simp [*]; done)), H', ⟨by first | omega | exact Nat.le_refl _⟩, by repeat (first | exact Drawn0.refl _ | apply Drawn0.step)⟩
  ·rw [if_neg c3] at H
   have c3b0 : decide (a0 < 0) = false := decide_eq_false c3
   clear c3
   (first | rw [c3b0] | (simp only [i64_w, i32_w]; rw [c3b0]) | skip)
   have H' := Aside0.mk H
   clear H
   go_wp2
   go_meet
   case rel => exact ⟨_, (decide (a0 > 255)), (by first | rfl | (simp; done) | (simp [*]; done)), H', ⟨by first | omega | exact Nat.le_refl _⟩, by repeat (first | exact Drawn0.refl _ | apply Drawn0.step)⟩
 case rest =>
  clear HC2
  try clear c1
  try clear p2
  try clear c3
  try clear c3b0
  obtain ⟨kq, x8_1, rfl, HA, HJ1, ⟨mc1, rfl⟩⟩ := hcut
  cases kq with
  | zero => exact absurd HA.out (by simp [code_Size.j0])
  | succ kj1 =>
   have H := HA.out
   clear HA
   simp only [code_Size.j0] at H
   by_cases c4 : x8_1 = true
   ·subst c4
    have H1 : (some 0) = some r := by rw [if_pos rfl] at H; exact H
    clear H
    have H := H1
    clear H1
    obtain rfl := Option.some.inj H
    go_wp2
    go_ret
    exact ⟨by first | rfl | (simp; done) | (simp [*]; done), by repeat (first | exact Drawn0.refl _ | apply Drawn0.step)⟩
   ·replace c4 := Bool.eq_false_iff.mpr c4
    subst c4
    have H1 : ((code_shape.f kj1 a0).bind fun t102 => (if t102 = (-1) then (some 0) else (if t102 = 0 then (some 1) else (if t102 = 1 then (some 2) else (if t102 = 2 then (some 2) else (some 3)))))) = some r := by rw [if_neg (show ¬ (false = true) by decide)] at H; exact H
    clear H
    have H := H1
    clear H1
    replace H := Option.bind_eq_some_iff.mp H
    obtain ⟨t102, A50, H⟩ := H
    replace H : (if t102 = (-1) then (some 0) else (if t102 = 0 then (some 1) else (if t102 = 1 then (some 2) else (if t102 = 2 then (some 2) else (some 3))))) = some r := H
    have A5 := Aside0.mk A50
    clear A50
    by_cases c6 : t102 = (-1)
    ·rw [if_pos c6] at H
     have c6b0 : (t102 == (-1)) = true := beq_iff_eq.mpr c6
     have c6b1 : (t102 != (-1)) = false := bne_eq_false_iff_eq.mpr c6
     clear c6
     obtain rfl := Option.some.inj H
     go_wp2_with (first | ((with_reducible refine gate_callee (f := 23) rfl ?_); refine goesL_ (some 10) rfl rfl Try.func23 (by kernel_rfl) rfl #[.int .i64 a0] rfl (by (try simp only [List.map_toArray, List.map_cons, List.map_nil]); first | done | rfl | (simp only [List.length_drop, List.length_take]; rfl)) ?_; (with_reducible refine (code_shape.calls kj1 a0 t102 _ A5.out).mono ?_); rintro e w' ⟨rfl, ⟨nd, rfl⟩⟩; refine ⟨_, rfl, ?_⟩))
     go_ret
     exact ⟨by first | rfl | (simp; done) | (simp [*]; done), by repeat (first | exact Drawn0.refl _ | apply Drawn0.step)⟩
    ·rw [if_neg c6] at H
     have c6b0 : (t102 == (-1)) = false := beq_eq_false_iff_ne.mpr c6
     have c6b1 : (t102 != (-1)) = true := bne_iff_ne.mpr c6
     by_cases c7 : t102 = 0
     ·rw [if_pos c7] at H
      have c7b0 : (t102 == 0) = true := beq_iff_eq.mpr c7
      have c7b1 : (t102 != 0) = false := bne_eq_false_iff_eq.mpr c7
      clear c7
      obtain rfl := Option.some.inj H
      go_wp2_with (first | ((with_reducible refine gate_callee (f := 23) rfl ?_); refine goesL_ (some 10) rfl rfl Try.func23 (by kernel_rfl) rfl #[.int .i64 a0] rfl (by (try simp only [List.map_toArray, List.map_cons, List.map_nil]); first | done | rfl | (simp only [List.length_drop, List.length_take]; rfl)) ?_; (with_reducible refine (code_shape.calls kj1 a0 t102 _ A5.out).mono ?_); rintro e w' ⟨rfl, ⟨nd, rfl⟩⟩; refine ⟨_, rfl, ?_⟩))
      go_ret
      exact ⟨by first | rfl | (simp; done) | (simp [*]; done), by repeat (first | exact Drawn0.refl _ | apply Drawn0.step)⟩
     ·rw [if_neg c7] at H
      have c7b0 : (t102 == 0) = false := beq_eq_false_iff_ne.mpr c7
      have c7b1 : (t102 != 0) = true := bne_iff_ne.mpr c7
      by_cases c8 : t102 = 1
      ·rw [if_pos c8] at H
       have c8b0 : (t102 == 1) = true := beq_iff_eq.mpr c8
       have c8b1 : (t102 != 1) = false := bne_eq_false_iff_eq.mpr c8
       clear c8
       obtain rfl := Option.some.inj H
       go_wp2_with (first | ((with_reducible refine gate_callee (f := 23) rfl ?_); refine goesL_ (some 10) rfl rfl Try.func23 (by kernel_rfl) rfl #[.int .i64 a0] rfl (by (try simp only [List.map_toArray, List.map_cons, List.map_nil]); first | done | rfl | (simp only [List.length_drop, List.length_take]; rfl)) ?_; (with_reducible refine (code_shape.calls kj1 a0 t102 _ A5.out).mono ?_); rintro e w' ⟨rfl, ⟨nd, rfl⟩⟩; refine ⟨_, rfl, ?_⟩))
       go_ret
       exact ⟨by first | rfl | (simp; done) | (simp [*]; done), by repeat (first | exact Drawn0.refl _ | apply Drawn0.step)⟩
      ·rw [if_neg c8] at H
       have c8b0 : (t102 == 1) = false := beq_eq_false_iff_ne.mpr c8
       have c8b1 : (t102 != 1) = true := bne_iff_ne.mpr c8
       by_cases c9 : t102 = 2
       ·rw [if_pos c9] at H
        have c9b0 : (t102 == 2) = true := beq_iff_eq.mpr c9
        have c9b1 : (t102 != 2) = false := bne_eq_false_iff_eq.mpr c9
        clear c9
        obtain rfl := Option.some.inj H
        go_wp2_with (first | ((with_reducible refine gate_callee (f := 23) rfl ?_); refine goesL_ (some 10) rfl rfl Try.func23 (by kernel_rfl) rfl #[.int .i64 a0] rfl (by (try simp only [List.map_toArray, List.map_cons, List.map_nil]); first | done | rfl | (simp only [List.length_drop, List.length_take]; rfl)) ?_; (with_reducible refine (code_shape.calls kj1 a0 t102 _ A5.out).mono ?_); rintro e w' ⟨rfl, ⟨nd, rfl⟩⟩; refine ⟨_, rfl, ?_⟩))
        go_ret
        exact ⟨by first | rfl | (simp; done) | (simp [*]; done), by repeat (first | exact Drawn0.refl _ | apply Drawn0.step)⟩
       ·rw [if_neg c9] at H
        have c9b0 : (t102 == 2) = false := beq_eq_false_iff_ne.mpr c9
        have c9b1 : (t102 != 2) = true := bne_iff_ne.mpr c9
        obtain rfl := Option.some.inj H
        go_wp2_with (first | ((with_reducible refine gate_callee (f := 23) rfl ?_); refine goesL_ (some 10) rfl rfl Try.func23 (by kernel_rfl) rfl #[.int .i64 a0] rfl (by (try simp only [List.map_toArray, List.map_cons, List.map_nil]); first | done | rfl | (simp only [List.length_drop, List.length_take]; rfl)) ?_; (with_reducible refine (code_shape.calls kj1 a0 t102 _ A5.out).mono ?_); rintro e w' ⟨rfl, ⟨nd, rfl⟩⟩; refine ⟨_, rfl, ?_⟩))
        go_ret
        exact ⟨by first | rfl | (simp; done) | (simp [*]; done), by repeat (first | exact Drawn0.refl _ | apply Drawn0.step)⟩

/-! ### code_Leads: function 14 -/
def code_Leads.f (a0 : Int) : Option (Bool) := if a0 ≥ 153 then (if a0 ≤ 167 then (some true) else (if a0 = 198 then (some true) else (some (a0 == 199)))) else (if a0 = 198 then (some true) else (some (a0 == 199)))
set_option maxHeartbeats 8000000 in
set_option maxRecDepth 100000 in
theorem code_Leads.calls (a0 : Int) (r : Bool) (w : World) (h : code_Leads.f a0 = some r) :
  Calls Try.prog 14 #[.int .i64 a0] w fun e w' => e = .returned (.bool r) ∧ Drawn0 w w' := by
 have H : (if a0 ≥ 153 then (if a0 ≤ 167 then (some true) else (if a0 = 198 then (some true) else (some (a0 == 199)))) else (if a0 = 198 then (some true) else (some (a0 == 199)))) = some r := h
 clear h
 by_cases c2 : a0 ≥ 153
 ·rw [if_pos c2] at H
  have c2b0 : decide (153 ≤ a0) = true := decide_eq_true c2
  clear c2
  by_cases c3 : a0 ≤ 167
  ·rw [if_pos c3] at H
   have c3b0 : decide (a0 ≤ 167) = true := decide_eq_true c3
   clear c3
   obtain rfl := Option.some.inj H
   go_enter Try.func14, Try.ntmps14
   go_wp2
   go_ret
   exact ⟨by first | rfl | (simp; done) | (simp [*]; done), by repeat (first | exact Drawn0.refl _ | apply Drawn0.step)⟩
  ·rw [if_neg c3] at H
   have c3b0 : decide (a0 ≤ 167) = false := decide_eq_false c3
   clear c3
   by_cases c4 : a0 = 198
   ·rw [if_pos c4] at H
    have c4b0 : (a0 == 198) = true := beq_iff_eq.mpr c4
    have c4b1 : (a0 != 198) = false := bne_eq_false_iff_eq.mpr c4
    clear c4
    obtain rfl := Option.some.inj H
    go_enter Try.func14, Try.ntmps14
    go_wp2
    go_ret
    exact ⟨by first | rfl | (simp; done) | (simp [*]; done), by repeat (first | exact Drawn0.refl _ | apply Drawn0.step)⟩
   ·rw [if_neg c4] at H
    have c4b0 : (a0 == 198) = false := beq_eq_false_iff_ne.mpr c4
    have c4b1 : (a0 != 198) = true := bne_iff_ne.mpr c4
    obtain rfl := Option.some.inj H
    go_enter Try.func14, Try.ntmps14
    go_wp2
    go_ret
    exact ⟨by first | rfl | (simp; done) | (simp [*]; done), by repeat (first | exact Drawn0.refl _ | apply Drawn0.step)⟩
 ·rw [if_neg c2] at H
  have c2b0 : decide (153 ≤ a0) = false := decide_eq_false c2
  clear c2
  by_cases c5 : a0 = 198
  ·rw [if_pos c5] at H
   have c5b0 : (a0 == 198) = true := beq_iff_eq.mpr c5
   have c5b1 : (a0 != 198) = false := bne_eq_false_iff_eq.mpr c5
   clear c5
   obtain rfl := Option.some.inj H
   go_enter Try.func14, Try.ntmps14
   go_wp2
   go_ret
   exact ⟨by first | rfl | (simp; done) | (simp [*]; done), by repeat (first | exact Drawn0.refl _ | apply Drawn0.step)⟩
  ·rw [if_neg c5] at H
   have c5b0 : (a0 == 198) = false := beq_eq_false_iff_ne.mpr c5
   have c5b1 : (a0 != 198) = true := bne_iff_ne.mpr c5
   obtain rfl := Option.some.inj H
   go_enter Try.func14, Try.ntmps14
   go_wp2
   go_ret
   exact ⟨by first | rfl | (simp; done) | (simp [*]; done), by repeat (first | exact Drawn0.refl _ | apply Drawn0.step)⟩

/-! ### code_one: function 20 -/
def code_one.f (k : Nat) (l0 : List Int) (a1 : Int) : Option (Int × Int × Int × Int) := if 0 < l0.length then ((code_shape.f k (wrap64 (rd l0 0))).bind fun s => (if s = 1 then (if 1 < l0.length then (some (a1, (wrap64 (rd l0 0)), (wrap64 (rd l0 1)), 0)) else (none)) else (if s = 2 then (if 1 < l0.length then (some (a1, (wrap64 (rd l0 0)), (wrap64 (IntKind.i8.wrap (rd l0 1))), 0)) else (none)) else (if s = 3 then (if 2 < l0.length then (some (a1, (wrap64 (rd l0 0)), (Go.bits .or .i64 (wrap64 ((wrap64 (rd l0 1)) * 256)) (wrap64 (rd l0 2))), 0)) else (none)) else (if s = 4 then (if 2 < l0.length then (some (a1, (wrap64 (rd l0 0)), (wrap64 (IntKind.i16.wrap (Go.bits .or .i64 (wrap64 ((wrap64 (rd l0 1)) * 256)) (wrap64 (rd l0 2))))), 0)) else (none)) else (if s = 5 then (if 2 < l0.length then (some (a1, (wrap64 (rd l0 0)), (wrap64 (a1 + (wrap64 (IntKind.i16.wrap (Go.bits .or .i64 (wrap64 ((wrap64 (rd l0 1)) * 256)) (wrap64 (rd l0 2))))))), 0)) else (none)) else (if s = 6 then (if 2 < l0.length then (some (a1, (wrap64 (rd l0 0)), (wrap64 (rd l0 1)), (wrap64 (IntKind.i8.wrap (rd l0 2))))) else (none)) else (some (a1, (wrap64 (rd l0 0)), 0, 0))))))))) else (none)
theorem code_one.mono : ∀ a0 a1 k, LeO (code_one.f k a0 a1) (code_one.f (k + 1) a0 a1) := by
 intro a0 a1 k
 unfold code_one.f
 repeat' first
   | (with_reducible exact code_shape.mono _ _)
   | (with_reducible exact LeO.refl _)
   | (with_reducible exact LeO.none _)
   | (with_reducible refine LeO.ite ?_ ?_)
   | (with_reducible refine LeO.bind ?_ (fun _ => ?_))
   | exact code_shape.mono _ _
   | exact LeO.none _
   | refine LeO.ite ?_ ?_
   | refine LeO.bind ?_ (fun _ => ?_)
set_option maxHeartbeats 8000000 in
set_option maxRecDepth 100000 in
theorem code_half (b off pb n c0 : Nat) (x : Option Nat) (u v : Int) (W : World) (hp : W.cell? ⟨pb, 0, none⟩ = some (.slice (some ⟨b, off, x⟩) n c0)) (h1 : W.cell? ⟨b, off + 1, none⟩ = some (.int .u8 u)) (h2 : W.cell? ⟨b, off + 2, none⟩ = some (.int .u8 v))
  (q1 : (1 : Int) < (n : Int)) (q2 : (2 : Int) < (n : Int)) :
  Calls Try.prog 25 #[.pointer (some ⟨pb, 0, none⟩)] W fun e w' => e = .returned (.int .i64 (Go.bits .or .i64 (wrap64 ((wrap64 u) * 256)) (wrap64 v))) ∧ ∃ m, w' = W.drewN m := by
 go_enter Try.func25, Try.ntmps25
 go_wp2
 go_quiet (fail)
 go_wp2
 go_ret
 exact ⟨rfl, _, rfl⟩

set_option maxHeartbeats 8000000 in
set_option maxRecDepth 100000 in
theorem code_one_1 (k : Nat) (A0 : Option Addr) (c0 : Nat) (l0 : List Int) (a1 : Int) (w : World) (hr0 : Kd.C (Kd.int .u8) w A0 l0.length l0) (hl : 1 < l0.length) (h : code_shape.f k (wrap64 (rd l0 0)) = some 1) :
  Calls Try.prog 20 #[.slice A0 l0.length c0, .int .i64 a1] w fun e w' => e = .returned (.agg #[.int .i64 a1, .int .i64 (wrap64 (rd l0 0)), .int .i64 (wrap64 (rd l0 1)), .int .i64 0]) ∧ Below w.heap.size w w' := by
 have HB := Aside0.mk (Below.refl w.heap.size w)
 have H := Aside0.mk h
 clear h
 have q0 : (0 : Int) < (l0.length : Int) := by omega
 have q1 : (1 : Int) < (l0.length : Int) := by omega
 obtain ⟨ad0, e0, hx0⟩ := Kd.at_int hr0 0 (by decide) q0
 cases e0
 obtain ⟨ad1, e1, hx1⟩ := Kd.at_int hr0 1 (by decide) q1
 cases e1
 have hlt : ad0.block < w.heap.size := World.block_lt_of_cell? w _ hx0
 obtain ⟨b, off, x⟩ := ad0
 simp only [Addr.add, Int.toNat_zero, Nat.add_zero] at hx0 hlt
 simp only [Addr.add, show Int.toNat 1 = 1 from rfl] at hx1
 have g1 : ∀ {W : World} {a : Addr} {v : Value} (o : Obj), a.block < w.heap.size → w.heap.size ≤ W.heap.size → W.cell? a = some v → (W.alloc o).cell? a = some v := fun o h1 h2 h => by rw [World.cell?_alloc_lt _ _ _ (Nat.lt_of_lt_of_le h1 h2)]; exact h
 have k0 : ∀ o1 o2, ((w.alloc o1).alloc o2).cell? ⟨b, off, x⟩ = some (.int .u8 (rd l0 0)) := fun o1 o2 => g1 _ hlt (by simp) (g1 _ hlt (Nat.le_refl _) hx0)
 have k1 : ∀ o1 o2 o3 n, ((((w.alloc o1).alloc o2).alloc o3).drewN n).cell? ⟨b, off + 1, none⟩ = some (.int .u8 (rd l0 1)) := fun o1 o2 o3 n => by
  rw [World.cell?_drewN]; exact g1 _ hlt (by simp; omega) (g1 _ hlt (by simp) (g1 _ hlt (Nat.le_refl _) (by simpa using hx1)))
 clear hl hr0 g1 hlt hx0 hx1
 have hmf : ∀ (fn : Fn) (first cap : Array Value) (w : World), (Instr.makeFunc fn first cap).run Try.prog w = .ok (.func fn first cap) w := fun _ _ _ _ => rfl
 go_enter Try.func20, Try.ntmps20
 go_wp2_with (first | (go_at_call 23; (with_reducible refine (code_shape.calls k (wrap64 (rd l0 0)) 1 _ H.out).mono ?_); rintro e w' ⟨rfl, ⟨nd, rfl⟩⟩))
 refine bodyPost_ret (v := .agg #[.int .i64 a1, .int .i64 (wrap64 (rd l0 0)), .int .i64 (wrap64 (rd l0 1)), .int .i64 0]) (by simp [results, Try.results20, go_sem]) rfl ⟨rfl, ?_⟩
 repeat (with_reducible first | exact HB.out | apply below_alloc | apply pw_below_drewN | apply below_drew1 | refine Below.setCell ?_ (show w.heap.size ≤ _ by simp only []; omega) _)

set_option maxHeartbeats 8000000 in
set_option maxRecDepth 100000 in
theorem code_one_2 (k : Nat) (A0 : Option Addr) (c0 : Nat) (l0 : List Int) (a1 : Int) (w : World) (hr0 : Kd.C (Kd.int .u8) w A0 l0.length l0) (hl : 1 < l0.length) (h : code_shape.f k (wrap64 (rd l0 0)) = some 2) :
  Calls Try.prog 20 #[.slice A0 l0.length c0, .int .i64 a1] w fun e w' => e = .returned (.agg #[.int .i64 a1, .int .i64 (wrap64 (rd l0 0)), .int .i64 (wrap64 (IntKind.i8.wrap (rd l0 1))), .int .i64 0]) ∧ Below w.heap.size w w' := by
 have HB := Aside0.mk (Below.refl w.heap.size w)
 have H := Aside0.mk h
 clear h
 have q0 : (0 : Int) < (l0.length : Int) := by omega
 have q1 : (1 : Int) < (l0.length : Int) := by omega
 obtain ⟨ad0, e0, hx0⟩ := Kd.at_int hr0 0 (by decide) q0
 cases e0
 obtain ⟨ad1, e1, hx1⟩ := Kd.at_int hr0 1 (by decide) q1
 cases e1
 have hlt : ad0.block < w.heap.size := World.block_lt_of_cell? w _ hx0
 obtain ⟨b, off, x⟩ := ad0
 simp only [Addr.add, Int.toNat_zero, Nat.add_zero] at hx0 hlt
 simp only [Addr.add, show Int.toNat 1 = 1 from rfl] at hx1
 have g1 : ∀ {W : World} {a : Addr} {v : Value} (o : Obj), a.block < w.heap.size → w.heap.size ≤ W.heap.size → W.cell? a = some v → (W.alloc o).cell? a = some v := fun o h1 h2 h => by rw [World.cell?_alloc_lt _ _ _ (Nat.lt_of_lt_of_le h1 h2)]; exact h
 have k0 : ∀ o1 o2, ((w.alloc o1).alloc o2).cell? ⟨b, off, x⟩ = some (.int .u8 (rd l0 0)) := fun o1 o2 => g1 _ hlt (by simp) (g1 _ hlt (Nat.le_refl _) hx0)
 have k1 : ∀ o1 o2 o3 n, ((((w.alloc o1).alloc o2).alloc o3).drewN n).cell? ⟨b, off + 1, none⟩ = some (.int .u8 (rd l0 1)) := fun o1 o2 o3 n => by
  rw [World.cell?_drewN]; exact g1 _ hlt (by simp; omega) (g1 _ hlt (by simp) (g1 _ hlt (Nat.le_refl _) (by simpa using hx1)))
 clear hl hr0 g1 hlt hx0 hx1
 have hmf : ∀ (fn : Fn) (first cap : Array Value) (w : World), (Instr.makeFunc fn first cap).run Try.prog w = .ok (.func fn first cap) w := fun _ _ _ _ => rfl
 go_enter Try.func20, Try.ntmps20
 go_wp2_with (first | (go_at_call 23; (with_reducible refine (code_shape.calls k (wrap64 (rd l0 0)) 2 _ H.out).mono ?_); rintro e w' ⟨rfl, ⟨nd, rfl⟩⟩))
 refine bodyPost_ret (v := .agg #[.int .i64 a1, .int .i64 (wrap64 (rd l0 0)), .int .i64 (wrap64 (IntKind.i8.wrap (rd l0 1))), .int .i64 0]) (by simp [results, Try.results20, go_sem]) rfl ⟨rfl, ?_⟩
 repeat (with_reducible first | exact HB.out | apply below_alloc | apply pw_below_drewN | apply below_drew1 | refine Below.setCell ?_ (show w.heap.size ≤ _ by simp only []; omega) _)

set_option maxHeartbeats 8000000 in
set_option maxRecDepth 100000 in
theorem code_one_3 (k : Nat) (A0 : Option Addr) (c0 : Nat) (l0 : List Int) (a1 : Int) (w : World) (hr0 : Kd.C (Kd.int .u8) w A0 l0.length l0) (hl : 2 < l0.length) (h : code_shape.f k (wrap64 (rd l0 0)) = some 3) :
  Calls Try.prog 20 #[.slice A0 l0.length c0, .int .i64 a1] w fun e w' => e = .returned (.agg #[.int .i64 a1, .int .i64 (wrap64 (rd l0 0)), .int .i64 (Go.bits .or .i64 (wrap64 ((wrap64 (rd l0 1)) * 256)) (wrap64 (rd l0 2))), .int .i64 0]) ∧ Below w.heap.size w w' := by
 have HB := Aside0.mk (Below.refl w.heap.size w)
 have H := Aside0.mk h
 clear h
 have q0 : (0 : Int) < (l0.length : Int) := by omega
 have q1 : (1 : Int) < (l0.length : Int) := by omega
 have q2 : (2 : Int) < (l0.length : Int) := by omega
 obtain ⟨ad0, e0, hx0⟩ := Kd.at_int hr0 0 (by decide) q0
 cases e0
 obtain ⟨ad1, e1, hx1⟩ := Kd.at_int hr0 1 (by decide) q1
 cases e1
 obtain ⟨ad2, e2, hx2⟩ := Kd.at_int hr0 2 (by decide) q2
 cases e2
 have hlt : ad0.block < w.heap.size := World.block_lt_of_cell? w _ hx0
 obtain ⟨b, off, x⟩ := ad0
 simp only [Addr.add, Int.toNat_zero, Nat.add_zero] at hx0 hlt
 simp only [Addr.add, show Int.toNat 1 = 1 from rfl] at hx1
 simp only [Addr.add, show Int.toNat 2 = 2 from rfl] at hx2
 have g1 : ∀ {W : World} {a : Addr} {v : Value} (o : Obj), a.block < w.heap.size → w.heap.size ≤ W.heap.size → W.cell? a = some v → (W.alloc o).cell? a = some v := fun o h1 h2 h => by rw [World.cell?_alloc_lt _ _ _ (Nat.lt_of_lt_of_le h1 h2)]; exact h
 have k0 : ∀ o1 o2, ((w.alloc o1).alloc o2).cell? ⟨b, off, x⟩ = some (.int .u8 (rd l0 0)) := fun o1 o2 => g1 _ hlt (by simp) (g1 _ hlt (Nat.le_refl _) hx0)
 have k1 : ∀ o1 o2 o3 n, ((((w.alloc o1).alloc o2).alloc o3).drewN n).cell? ⟨b, off + 1, none⟩ = some (.int .u8 (rd l0 1)) := fun o1 o2 o3 n => by
  rw [World.cell?_drewN]; exact g1 _ hlt (by simp; omega) (g1 _ hlt (by simp) (g1 _ hlt (Nat.le_refl _) (by simpa using hx1)))
 have k2 : ∀ o1 o2 o3 n, ((((w.alloc o1).alloc o2).alloc o3).drewN n).cell? ⟨b, off + 2, none⟩ = some (.int .u8 (rd l0 2)) := fun o1 o2 o3 n => by
  rw [World.cell?_drewN]; exact g1 _ hlt (by simp; omega) (g1 _ hlt (by simp) (g1 _ hlt (Nat.le_refl _) (by simpa using hx2)))
 have kp : ∀ o2 o3 n, ((((w.alloc (.cells #[.slice (some ⟨b, off, x⟩) l0.length c0] 22)).alloc o2).alloc o3).drewN n).cell? ⟨w.heap.size, 0, none⟩ = some (.slice (some ⟨b, off, x⟩) l0.length c0) := fun o2 o3 n => by
  rw [World.cell?_drewN, World.cell?_alloc_lt _ _ _ (by simp; omega), World.cell?_alloc_lt _ _ _ (by simp)]; simp
 clear hl hr0 g1 hlt hx0 hx1 hx2
 have hmf : ∀ (fn : Fn) (first cap : Array Value) (w : World), (Instr.makeFunc fn first cap).run Try.prog w = .ok (.func fn first cap) w := fun _ _ _ _ => rfl
 go_enter Try.func20, Try.ntmps20
 go_wp2_with (first | (go_at_call 23; (with_reducible refine (code_shape.calls k (wrap64 (rd l0 0)) 3 _ H.out).mono ?_); rintro e w' ⟨rfl, ⟨nd, rfl⟩⟩) | (go_at_call 25; refine (code_half b off w.heap.size l0.length c0 x (rd l0 1) (rd l0 2) _ (by exact kp _ _ _) (by exact k1 _ _ _ _) (by exact k2 _ _ _ _) q1 q2).mono ?_; rintro e w' ⟨rfl, ⟨m, rfl⟩⟩))
 refine bodyPost_ret (v := .agg #[.int .i64 a1, .int .i64 (wrap64 (rd l0 0)), .int .i64 (Go.bits .or .i64 (wrap64 ((wrap64 (rd l0 1)) * 256)) (wrap64 (rd l0 2))), .int .i64 0]) (by simp [results, Try.results20, go_sem]) rfl ⟨rfl, ?_⟩
 repeat (with_reducible first | exact HB.out | apply below_alloc | apply pw_below_drewN | apply below_drew1 | refine Below.setCell ?_ (show w.heap.size ≤ _ by simp only []; omega) _)

set_option maxHeartbeats 8000000 in
set_option maxRecDepth 100000 in
theorem code_one_4 (k : Nat) (A0 : Option Addr) (c0 : Nat) (l0 : List Int) (a1 : Int) (w : World) (hr0 : Kd.C (Kd.int .u8) w A0 l0.length l0) (hl : 2 < l0.length) (h : code_shape.f k (wrap64 (rd l0 0)) = some 4) :
  Calls Try.prog 20 #[.slice A0 l0.length c0, .int .i64 a1] w fun e w' => e = .returned (.agg #[.int .i64 a1, .int .i64 (wrap64 (rd l0 0)), .int .i64 (wrap64 (IntKind.i16.wrap (Go.bits .or .i64 (wrap64 ((wrap64 (rd l0 1)) * 256)) (wrap64 (rd l0 2))))), .int .i64 0]) ∧ Below w.heap.size w w' := by
 have HB := Aside0.mk (Below.refl w.heap.size w)
 have H := Aside0.mk h
 clear h
 have q0 : (0 : Int) < (l0.length : Int) := by omega
 have q1 : (1 : Int) < (l0.length : Int) := by omega
 have q2 : (2 : Int) < (l0.length : Int) := by omega
 obtain ⟨ad0, e0, hx0⟩ := Kd.at_int hr0 0 (by decide) q0
 cases e0
 obtain ⟨ad1, e1, hx1⟩ := Kd.at_int hr0 1 (by decide) q1
 cases e1
 obtain ⟨ad2, e2, hx2⟩ := Kd.at_int hr0 2 (by decide) q2
 cases e2
 have hlt : ad0.block < w.heap.size := World.block_lt_of_cell? w _ hx0
 obtain ⟨b, off, x⟩ := ad0
 simp only [Addr.add, Int.toNat_zero, Nat.add_zero] at hx0 hlt
 simp only [Addr.add, show Int.toNat 1 = 1 from rfl] at hx1
 simp only [Addr.add, show Int.toNat 2 = 2 from rfl] at hx2
 have g1 : ∀ {W : World} {a : Addr} {v : Value} (o : Obj), a.block < w.heap.size → w.heap.size ≤ W.heap.size → W.cell? a = some v → (W.alloc o).cell? a = some v := fun o h1 h2 h => by rw [World.cell?_alloc_lt _ _ _ (Nat.lt_of_lt_of_le h1 h2)]; exact h
 have k0 : ∀ o1 o2, ((w.alloc o1).alloc o2).cell? ⟨b, off, x⟩ = some (.int .u8 (rd l0 0)) := fun o1 o2 => g1 _ hlt (by simp) (g1 _ hlt (Nat.le_refl _) hx0)
 have k1 : ∀ o1 o2 o3 n, ((((w.alloc o1).alloc o2).alloc o3).drewN n).cell? ⟨b, off + 1, none⟩ = some (.int .u8 (rd l0 1)) := fun o1 o2 o3 n => by
  rw [World.cell?_drewN]; exact g1 _ hlt (by simp; omega) (g1 _ hlt (by simp) (g1 _ hlt (Nat.le_refl _) (by simpa using hx1)))
 have k2 : ∀ o1 o2 o3 n, ((((w.alloc o1).alloc o2).alloc o3).drewN n).cell? ⟨b, off + 2, none⟩ = some (.int .u8 (rd l0 2)) := fun o1 o2 o3 n => by
  rw [World.cell?_drewN]; exact g1 _ hlt (by simp; omega) (g1 _ hlt (by simp) (g1 _ hlt (Nat.le_refl _) (by simpa using hx2)))
 have kp : ∀ o2 o3 n, ((((w.alloc (.cells #[.slice (some ⟨b, off, x⟩) l0.length c0] 22)).alloc o2).alloc o3).drewN n).cell? ⟨w.heap.size, 0, none⟩ = some (.slice (some ⟨b, off, x⟩) l0.length c0) := fun o2 o3 n => by
  rw [World.cell?_drewN, World.cell?_alloc_lt _ _ _ (by simp; omega), World.cell?_alloc_lt _ _ _ (by simp)]; simp
 clear hl hr0 g1 hlt hx0 hx1 hx2
 have hmf : ∀ (fn : Fn) (first cap : Array Value) (w : World), (Instr.makeFunc fn first cap).run Try.prog w = .ok (.func fn first cap) w := fun _ _ _ _ => rfl
 go_enter Try.func20, Try.ntmps20
 go_wp2_with (first | (go_at_call 23; (with_reducible refine (code_shape.calls k (wrap64 (rd l0 0)) 4 _ H.out).mono ?_); rintro e w' ⟨rfl, ⟨nd, rfl⟩⟩) | (go_at_call 25; refine (code_half b off w.heap.size l0.length c0 x (rd l0 1) (rd l0 2) _ (by exact kp _ _ _) (by exact k1 _ _ _ _) (by exact k2 _ _ _ _) q1 q2).mono ?_; rintro e w' ⟨rfl, ⟨m, rfl⟩⟩))
 refine bodyPost_ret (v := .agg #[.int .i64 a1, .int .i64 (wrap64 (rd l0 0)), .int .i64 (wrap64 (IntKind.i16.wrap (Go.bits .or .i64 (wrap64 ((wrap64 (rd l0 1)) * 256)) (wrap64 (rd l0 2))))), .int .i64 0]) (by simp [results, Try.results20, go_sem]) rfl ⟨rfl, ?_⟩
 repeat (with_reducible first | exact HB.out | apply below_alloc | apply pw_below_drewN | apply below_drew1 | refine Below.setCell ?_ (show w.heap.size ≤ _ by simp only []; omega) _)

set_option maxHeartbeats 8000000 in
set_option maxRecDepth 100000 in
theorem code_one_5 (k : Nat) (A0 : Option Addr) (c0 : Nat) (l0 : List Int) (a1 : Int) (w : World) (hr0 : Kd.C (Kd.int .u8) w A0 l0.length l0) (hl : 2 < l0.length) (h : code_shape.f k (wrap64 (rd l0 0)) = some 5) :
  Calls Try.prog 20 #[.slice A0 l0.length c0, .int .i64 a1] w fun e w' => e = .returned (.agg #[.int .i64 a1, .int .i64 (wrap64 (rd l0 0)), .int .i64 (wrap64 (a1 + (wrap64 (IntKind.i16.wrap (Go.bits .or .i64 (wrap64 ((wrap64 (rd l0 1)) * 256)) (wrap64 (rd l0 2))))))), .int .i64 0]) ∧ Below w.heap.size w w' := by
 have HB := Aside0.mk (Below.refl w.heap.size w)
 have H := Aside0.mk h
 clear h
 have q0 : (0 : Int) < (l0.length : Int) := by omega
 have q1 : (1 : Int) < (l0.length : Int) := by omega
 have q2 : (2 : Int) < (l0.length : Int) := by omega
 obtain ⟨ad0, e0, hx0⟩ := Kd.at_int hr0 0 (by decide) q0
 cases e0
 obtain ⟨ad1, e1, hx1⟩ := Kd.at_int hr0 1 (by decide) q1
 cases e1
 obtain ⟨ad2, e2, hx2⟩ := Kd.at_int hr0 2 (by decide) q2
 cases e2
 have hlt : ad0.block < w.heap.size := World.block_lt_of_cell? w _ hx0
 obtain ⟨b, off, x⟩ := ad0
 simp only [Addr.add, Int.toNat_zero, Nat.add_zero] at hx0 hlt
 simp only [Addr.add, show Int.toNat 1 = 1 from rfl] at hx1
 simp only [Addr.add, show Int.toNat 2 = 2 from rfl] at hx2
 have g1 : ∀ {W : World} {a : Addr} {v : Value} (o : Obj), a.block < w.heap.size → w.heap.size ≤ W.heap.size → W.cell? a = some v → (W.alloc o).cell? a = some v := fun o h1 h2 h => by rw [World.cell?_alloc_lt _ _ _ (Nat.lt_of_lt_of_le h1 h2)]; exact h
 have k0 : ∀ o1 o2, ((w.alloc o1).alloc o2).cell? ⟨b, off, x⟩ = some (.int .u8 (rd l0 0)) := fun o1 o2 => g1 _ hlt (by simp) (g1 _ hlt (Nat.le_refl _) hx0)
 have k1 : ∀ o1 o2 o3 n, ((((w.alloc o1).alloc o2).alloc o3).drewN n).cell? ⟨b, off + 1, none⟩ = some (.int .u8 (rd l0 1)) := fun o1 o2 o3 n => by
  rw [World.cell?_drewN]; exact g1 _ hlt (by simp; omega) (g1 _ hlt (by simp) (g1 _ hlt (Nat.le_refl _) (by simpa using hx1)))
 have k2 : ∀ o1 o2 o3 n, ((((w.alloc o1).alloc o2).alloc o3).drewN n).cell? ⟨b, off + 2, none⟩ = some (.int .u8 (rd l0 2)) := fun o1 o2 o3 n => by
  rw [World.cell?_drewN]; exact g1 _ hlt (by simp; omega) (g1 _ hlt (by simp) (g1 _ hlt (Nat.le_refl _) (by simpa using hx2)))
 have kp : ∀ o2 o3 n, ((((w.alloc (.cells #[.slice (some ⟨b, off, x⟩) l0.length c0] 22)).alloc o2).alloc o3).drewN n).cell? ⟨w.heap.size, 0, none⟩ = some (.slice (some ⟨b, off, x⟩) l0.length c0) := fun o2 o3 n => by
  rw [World.cell?_drewN, World.cell?_alloc_lt _ _ _ (by simp; omega), World.cell?_alloc_lt _ _ _ (by simp)]; simp
 clear hl hr0 g1 hlt hx0 hx1 hx2
 have hmf : ∀ (fn : Fn) (first cap : Array Value) (w : World), (Instr.makeFunc fn first cap).run Try.prog w = .ok (.func fn first cap) w := fun _ _ _ _ => rfl
 go_enter Try.func20, Try.ntmps20
 go_wp2_with (first | (go_at_call 23; (with_reducible refine (code_shape.calls k (wrap64 (rd l0 0)) 5 _ H.out).mono ?_); rintro e w' ⟨rfl, ⟨nd, rfl⟩⟩) | (go_at_call 25; refine (code_half b off w.heap.size l0.length c0 x (rd l0 1) (rd l0 2) _ (by exact kp _ _ _) (by exact k1 _ _ _ _) (by exact k2 _ _ _ _) q1 q2).mono ?_; rintro e w' ⟨rfl, ⟨m, rfl⟩⟩))
 refine bodyPost_ret (v := .agg #[.int .i64 a1, .int .i64 (wrap64 (rd l0 0)), .int .i64 (wrap64 (a1 + (wrap64 (IntKind.i16.wrap (Go.bits .or .i64 (wrap64 ((wrap64 (rd l0 1)) * 256)) (wrap64 (rd l0 2))))))), .int .i64 0]) (by simp [results, Try.results20, go_sem]) rfl ⟨rfl, ?_⟩
 repeat (with_reducible first | exact HB.out | apply below_alloc | apply pw_below_drewN | apply below_drew1 | refine Below.setCell ?_ (show w.heap.size ≤ _ by simp only []; omega) _)

set_option maxHeartbeats 8000000 in
set_option maxRecDepth 100000 in
theorem code_one_6 (k : Nat) (A0 : Option Addr) (c0 : Nat) (l0 : List Int) (a1 : Int) (w : World) (hr0 : Kd.C (Kd.int .u8) w A0 l0.length l0) (hl : 2 < l0.length) (h : code_shape.f k (wrap64 (rd l0 0)) = some 6) :
  Calls Try.prog 20 #[.slice A0 l0.length c0, .int .i64 a1] w fun e w' => e = .returned (.agg #[.int .i64 a1, .int .i64 (wrap64 (rd l0 0)), .int .i64 (wrap64 (rd l0 1)), .int .i64 (wrap64 (IntKind.i8.wrap (rd l0 2)))]) ∧ Below w.heap.size w w' := by
 have HB := Aside0.mk (Below.refl w.heap.size w)
 have H := Aside0.mk h
 clear h
 have q0 : (0 : Int) < (l0.length : Int) := by omega
 have q1 : (1 : Int) < (l0.length : Int) := by omega
 have q2 : (2 : Int) < (l0.length : Int) := by omega
 obtain ⟨ad0, e0, hx0⟩ := Kd.at_int hr0 0 (by decide) q0
 cases e0
 obtain ⟨ad1, e1, hx1⟩ := Kd.at_int hr0 1 (by decide) q1
 cases e1
 obtain ⟨ad2, e2, hx2⟩ := Kd.at_int hr0 2 (by decide) q2
 cases e2
 have hlt : ad0.block < w.heap.size := World.block_lt_of_cell? w _ hx0
 obtain ⟨b, off, x⟩ := ad0
 simp only [Addr.add, Int.toNat_zero, Nat.add_zero] at hx0 hlt
 simp only [Addr.add, show Int.toNat 1 = 1 from rfl] at hx1
 simp only [Addr.add, show Int.toNat 2 = 2 from rfl] at hx2
 have g1 : ∀ {W : World} {a : Addr} {v : Value} (o : Obj), a.block < w.heap.size → w.heap.size ≤ W.heap.size → W.cell? a = some v → (W.alloc o).cell? a = some v := fun o h1 h2 h => by rw [World.cell?_alloc_lt _ _ _ (Nat.lt_of_lt_of_le h1 h2)]; exact h
 have k0 : ∀ o1 o2, ((w.alloc o1).alloc o2).cell? ⟨b, off, x⟩ = some (.int .u8 (rd l0 0)) := fun o1 o2 => g1 _ hlt (by simp) (g1 _ hlt (Nat.le_refl _) hx0)
 have k1 : ∀ o1 o2 o3 n, ((((w.alloc o1).alloc o2).alloc o3).drewN n).cell? ⟨b, off + 1, none⟩ = some (.int .u8 (rd l0 1)) := fun o1 o2 o3 n => by
  rw [World.cell?_drewN]; exact g1 _ hlt (by simp; omega) (g1 _ hlt (by simp) (g1 _ hlt (Nat.le_refl _) (by simpa using hx1)))
 have k2 : ∀ o1 o2 o3 n, ((((w.alloc o1).alloc o2).alloc o3).drewN n).cell? ⟨b, off + 2, none⟩ = some (.int .u8 (rd l0 2)) := fun o1 o2 o3 n => by
  rw [World.cell?_drewN]; exact g1 _ hlt (by simp; omega) (g1 _ hlt (by simp) (g1 _ hlt (Nat.le_refl _) (by simpa using hx2)))
 have k7 : ∀ o1 o2 o3 n i z, (((((w.alloc o1).alloc o2).alloc o3).drewN n).setCell ⟨w.heap.size + 1 + 1, i, none⟩ z).cell? ⟨b, off + 1, none⟩ = some (.int .u8 (rd l0 1)) := fun o1 o2 o3 n i z => by
  rw [World.cell?_setCell_other _ _ _ _ (fun e => by injection e with e1; omega)]; exact k1 o1 o2 o3 n
 have k8 : ∀ o1 o2 o3 n i z, (((((w.alloc o1).alloc o2).alloc o3).drewN n).setCell ⟨w.heap.size + 1 + 1, i, none⟩ z).cell? ⟨b, off + 2, none⟩ = some (.int .u8 (rd l0 2)) := fun o1 o2 o3 n i z => by
  rw [World.cell?_setCell_other _ _ _ _ (fun e => by injection e with e1; omega)]; exact k2 o1 o2 o3 n
 clear hl hr0 g1 hlt hx0 hx1 hx2
 have hmf : ∀ (fn : Fn) (first cap : Array Value) (w : World), (Instr.makeFunc fn first cap).run Try.prog w = .ok (.func fn first cap) w := fun _ _ _ _ => rfl
 go_enter Try.func20, Try.ntmps20
 go_wp2_with (first | (go_at_call 23; (with_reducible refine (code_shape.calls k (wrap64 (rd l0 0)) 6 _ H.out).mono ?_); rintro e w' ⟨rfl, ⟨nd, rfl⟩⟩))
 go_region
 all_goals go_wp2
 all_goals refine bodyPost_ret (v := .agg #[.int .i64 a1, .int .i64 (wrap64 (rd l0 0)), .int .i64 (wrap64 (rd l0 1)), .int .i64 (wrap64 (IntKind.i8.wrap (rd l0 2)))]) (by simp [results, Try.results20, go_sem]) rfl ⟨rfl, ?_⟩
 all_goals repeat (with_reducible first | exact HB.out | apply below_alloc | apply pw_below_drewN | apply below_drew1 | refine Below.setCell ?_ (show w.heap.size ≤ _ by simp only []; omega) _)

set_option maxHeartbeats 8000000 in
set_option maxRecDepth 100000 in
theorem code_one_0 (k : Nat) (A0 : Option Addr) (c0 : Nat) (l0 : List Int) (a1 : Int) (s : Int) (w : World) (hr0 : Kd.C (Kd.int .u8) w A0 l0.length l0) (hl : 0 < l0.length) (h : code_shape.f k (wrap64 (rd l0 0)) = some s) (n1 : (s == 1) = false) (n2 : (s == 2) = false) (n3 : (s == 3) = false) (n4 : (s == 4) = false) (n5 : (s == 5) = false) (n6 : (s == 6) = false) :
  Calls Try.prog 20 #[.slice A0 l0.length c0, .int .i64 a1] w fun e w' => e = .returned (.agg #[.int .i64 a1, .int .i64 (wrap64 (rd l0 0)), .int .i64 0, .int .i64 0]) ∧ Below w.heap.size w w' := by
 have HB := Aside0.mk (Below.refl w.heap.size w)
 have H := Aside0.mk h
 clear h
 have q0 : (0 : Int) < (l0.length : Int) := by omega
 obtain ⟨ad0, e0, hx0⟩ := Kd.at_int hr0 0 (by decide) q0
 cases e0
 have hlt : ad0.block < w.heap.size := World.block_lt_of_cell? w _ hx0
 obtain ⟨b, off, x⟩ := ad0
 simp only [Addr.add, Int.toNat_zero, Nat.add_zero] at hx0 hlt
 have g1 : ∀ {W : World} {a : Addr} {v : Value} (o : Obj), a.block < w.heap.size → w.heap.size ≤ W.heap.size → W.cell? a = some v → (W.alloc o).cell? a = some v := fun o h1 h2 h => by rw [World.cell?_alloc_lt _ _ _ (Nat.lt_of_lt_of_le h1 h2)]; exact h
 have k0 : ∀ o1 o2, ((w.alloc o1).alloc o2).cell? ⟨b, off, x⟩ = some (.int .u8 (rd l0 0)) := fun o1 o2 => g1 _ hlt (by simp) (g1 _ hlt (Nat.le_refl _) hx0)
 clear hl hr0 g1 hlt hx0
 have hmf : ∀ (fn : Fn) (first cap : Array Value) (w : World), (Instr.makeFunc fn first cap).run Try.prog w = .ok (.func fn first cap) w := fun _ _ _ _ => rfl
 go_enter Try.func20, Try.ntmps20
 go_wp2_with (first | (go_at_call 23; (with_reducible refine (code_shape.calls k (wrap64 (rd l0 0)) s _ H.out).mono ?_); rintro e w' ⟨rfl, ⟨nd, rfl⟩⟩))
 refine bodyPost_ret (v := .agg #[.int .i64 a1, .int .i64 (wrap64 (rd l0 0)), .int .i64 0, .int .i64 0]) (by simp [results, Try.results20, go_sem]) rfl ⟨rfl, ?_⟩
 repeat (with_reducible first | exact HB.out | apply below_alloc | apply pw_below_drewN | apply below_drew1 | refine Below.setCell ?_ (show w.heap.size ≤ _ by simp only []; omega) _)

theorem code_one.calls (k : Nat) (A0 : Option Addr) (c0 : Nat) (l0 : List Int) (a1 : Int) (r1 : Int) (r2 : Int) (r3 : Int) (r4 : Int) (w : World) (hr0 : Kd.C (Kd.int .u8) w A0 l0.length l0) (_hc0 : l0.length ≤ c0) (h : code_one.f k l0 a1 = some (r1, r2, r3, r4)) :
  Calls Try.prog 20 #[.slice A0 l0.length c0, .int .i64 a1] w fun e w' => e = .returned (.agg #[.int .i64 r1, .int .i64 r2, .int .i64 r3, .int .i64 r4]) ∧ Below w.heap.size w w' := by
 unfold code_one.f at h
 by_cases h0 : 0 < l0.length
 ·rw [if_pos h0] at h
  obtain ⟨s, hs, h⟩ := Option.bind_eq_some_iff.mp h
  by_cases c1 : s = 1
  ·rw [if_pos c1] at h
   subst c1
   by_cases hl : 1 < l0.length
   ·rw [if_pos hl] at h
    simp only [Option.some.injEq, Prod.mk.injEq] at h
    obtain ⟨rfl, rfl, rfl, rfl⟩ := h
    exact code_one_1 k A0 c0 l0 _ w hr0 hl hs
   ·rw [if_neg hl] at h; exact absurd h (by simp)
  ·rw [if_neg c1] at h
   by_cases c2 : s = 2
   ·rw [if_pos c2] at h
    subst c2
    by_cases hl : 1 < l0.length
    ·rw [if_pos hl] at h
     simp only [Option.some.injEq, Prod.mk.injEq] at h
     obtain ⟨rfl, rfl, rfl, rfl⟩ := h
     exact code_one_2 k A0 c0 l0 _ w hr0 hl hs
    ·rw [if_neg hl] at h; exact absurd h (by simp)
   ·rw [if_neg c2] at h
    by_cases c3 : s = 3
    ·rw [if_pos c3] at h
     subst c3
     by_cases hl : 2 < l0.length
     ·rw [if_pos hl] at h
      simp only [Option.some.injEq, Prod.mk.injEq] at h
      obtain ⟨rfl, rfl, rfl, rfl⟩ := h
      exact code_one_3 k A0 c0 l0 _ w hr0 hl hs
     ·rw [if_neg hl] at h; exact absurd h (by simp)
    ·rw [if_neg c3] at h
     by_cases c4 : s = 4
     ·rw [if_pos c4] at h
      subst c4
      by_cases hl : 2 < l0.length
      ·rw [if_pos hl] at h
       simp only [Option.some.injEq, Prod.mk.injEq] at h
       obtain ⟨rfl, rfl, rfl, rfl⟩ := h
       exact code_one_4 k A0 c0 l0 _ w hr0 hl hs
      ·rw [if_neg hl] at h; exact absurd h (by simp)
     ·rw [if_neg c4] at h
      by_cases c5 : s = 5
      ·rw [if_pos c5] at h
       subst c5
       by_cases hl : 2 < l0.length
       ·rw [if_pos hl] at h
        simp only [Option.some.injEq, Prod.mk.injEq] at h
        obtain ⟨rfl, rfl, rfl, rfl⟩ := h
        exact code_one_5 k A0 c0 l0 _ w hr0 hl hs
       ·rw [if_neg hl] at h; exact absurd h (by simp)
      ·rw [if_neg c5] at h
       by_cases c6 : s = 6
       ·rw [if_pos c6] at h
        subst c6
        by_cases hl : 2 < l0.length
        ·rw [if_pos hl] at h
         simp only [Option.some.injEq, Prod.mk.injEq] at h
         obtain ⟨rfl, rfl, rfl, rfl⟩ := h
         exact code_one_6 k A0 c0 l0 _ w hr0 hl hs
        ·rw [if_neg hl] at h; exact absurd h (by simp)
       ·rw [if_neg c6] at h
        simp only [Option.some.injEq, Prod.mk.injEq] at h
        obtain ⟨rfl, rfl, rfl, rfl⟩ := h
        exact code_one_0 k A0 c0 l0 _ s w hr0 h0 hs (by simpa using c1) (by simpa using c2) (by simpa using c3) (by simpa using c4) (by simpa using c5) (by simpa using c6)
 ·rw [if_neg h0] at h; exact absurd h (by simp)

end Go.Proofs.Ytbicilgcmopidaa.PAll
