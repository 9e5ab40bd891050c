-- Printed by this session's own program wip/tools/pp.py (the kit's printer with hooks of the session's); not a text of print.sh.
import Derived.Test.YtbbogkhidaekoaaPAllx0
namespace Go.Proofs.Ytbbogkhidaekoaa.PAll
open Go.RowKit Go.Proofs.YtbbogkhidaekoaaW.PrintWords Go.Proofs.YtbbogkhidaekoaaW.PrintLast Go.Proofs.YtbbogkhidaekoaaW.PrintMore
attribute [local go_sem] max2_int min2_int max_two min_two max_three min_three max_four min_four   -- for this text's walks alone
set_option linter.unusedVariables false
set_option linter.unusedSimpArgs false

/-! ### desc_Class: function 14 -/
def desc_Class.f (a0 : ByteArray) : Option (ByteArray) := if (a0.size : Int) > 2 then (if 0 < (a0.size : Int) then (if (bt a0 0) = 76 then (if 0 ≤ (wrap64 ((a0.size : Int) - 1)) then (if (wrap64 ((a0.size : Int) - 1)) < (a0.size : Int) then (if (bt a0 (wrap64 ((a0.size : Int) - 1))) = 59 then (if 1 ≤ (wrap64 ((a0.size : Int) - 1)) then (if (wrap64 ((a0.size : Int) - 1)) ≤ (a0.size : Int) then (some (a0.extract 1 ((wrap64 ((a0.size : Int) - 1)) : Int).toNat)) else (none)) else (none)) else (some (⟨#[]⟩ : ByteArray))) else (none)) else (none)) else (some (⟨#[]⟩ : ByteArray))) else (none)) else (some (⟨#[]⟩ : ByteArray))
set_option maxHeartbeats 8000000 in
set_option maxRecDepth 100000 in
theorem desc_Class.calls (a0 : ByteArray) (r : ByteArray) (w : World) (h : desc_Class.f a0 = some r) :
  Calls Try.prog 14 #[.string a0] w fun e w' => e = .returned (.string r) ∧ Drawn0 w w' := by
 have H : (if (a0.size : Int) > 2 then (if 0 < (a0.size : Int) then (if (bt a0 0) = 76 then (if 0 ≤ (wrap64 ((a0.size : Int) - 1)) then (if (wrap64 ((a0.size : Int) - 1)) < (a0.size : Int) then (if (bt a0 (wrap64 ((a0.size : Int) - 1))) = 59 then (if 1 ≤ (wrap64 ((a0.size : Int) - 1)) then (if (wrap64 ((a0.size : Int) - 1)) ≤ (a0.size : Int) then (some (a0.extract 1 ((wrap64 ((a0.size : Int) - 1)) : Int).toNat)) else (none)) else (none)) else (some (⟨#[]⟩ : ByteArray))) else (none)) else (none)) else (some (⟨#[]⟩ : ByteArray))) else (none)) else (some (⟨#[]⟩ : ByteArray))) = some r := h
 clear h
 by_cases c2 : (a0.size : Int) > 2
 ·rw [if_pos c2] at H
  have c2b0 : decide (2 < (a0.size : Int)) = true := decide_eq_true c2
  have c2b1 : decide (2 < a0.size) = true := decide_eq_true (by omega)
  clear c2
  by_cases c3 : 0 < (a0.size : Int)
  ·rw [if_pos c3] at H
   have c3b0 : decide (0 < (a0.size : Int)) = true := decide_eq_true c3
   have c3b1 : decide (0 < a0.size) = true := decide_eq_true (by omega)
   clear c3
   by_cases c5 : (bt a0 0) = 76
   ·rw [if_pos c5] at H
    have c5b0 : ((bt a0 0) == 76) = true := beq_iff_eq.mpr c5
    have c5b1 : ((bt a0 0) != 76) = false := bne_eq_false_iff_eq.mpr c5
    clear c5
    obtain ⟨ji6, hji6⟩ : ∃ j_ : Int, (wrap64 ((a0.size : Int) - 1)) = j_ := ⟨_, rfl⟩
    replace H : (if 0 ≤ (ji6) then (if (ji6) < (a0.size : Int) then (if (bt a0 (ji6)) = 59 then (if 1 ≤ (ji6) then (if (ji6) ≤ (a0.size : Int) then (some (a0.extract 1 ((ji6) : Int).toNat)) else (none)) else (none)) else (some (⟨#[]⟩ : ByteArray))) else (none)) else (none)) = some r := by first | (rw [hji6] at H; exact H) | (simp only [hji6] at H ⊢; exact H)
    have hji6w : (IntKind.i64.wrap ((a0.size : Int) - 1)) = ji6 := (i64_w _).trans hji6
    by_cases c7 : 0 ≤ (ji6)
    ·rw [if_pos c7] at H
     have c7b0 : decide (0 ≤ (ji6)) = true := decide_eq_true c7
     clear c7
     by_cases c8 : (ji6) < (a0.size : Int)
     ·rw [if_pos c8] at H
      have c8b0 : decide ((ji6) < (a0.size : Int)) = true := decide_eq_true c8
      clear c8
      by_cases c10 : (bt a0 (ji6)) = 59
      ·rw [if_pos c10] at H
       have c10b0 : ((bt a0 (ji6)) == 59) = true := beq_iff_eq.mpr c10
       have c10b1 : ((bt a0 (ji6)) != 59) = false := bne_eq_false_iff_eq.mpr c10
       clear c10
       by_cases c11 : 1 ≤ (ji6)
       ·rw [if_pos c11] at H
        have c11b0 := eq_true c11
        have c11b1 : decide (1 ≤ (ji6)) = true := decide_eq_true c11
        clear c11
        by_cases c12 : (ji6) ≤ (a0.size : Int)
        ·rw [if_pos c12] at H
         have c12b0 := eq_true c12
         have c12b1 : decide ((ji6) ≤ (a0.size : Int)) = true := decide_eq_true c12
         clear c12
         obtain rfl := Option.some.inj H
         have p4 : 0 ≤ (0 : Int) := (by omega)
         have q4 : 0 < a0.size := (by have : (0 : Int) < (a0.size : Int) := of_decide_eq_true (by first | (with_reducible assumption) | assumption); omega)
         have hx4 : ∀ h : 0 < a0.size, ((a0[0]'h).toNat : Int) = bt a0 0 := bt_at a0 0
         clear p4
         have qi4 : (0 < (a0.size : Int)) = True := eq_true (of_decide_eq_true (by first | (with_reducible assumption) | assumption))
         replace q4 := eq_true q4
         have p9 : 0 ≤ ((ji6) : Int) := of_decide_eq_true (by first | (with_reducible assumption) | assumption)
         have q9 : (ji6) < (a0.size : Int) := of_decide_eq_true (by first | (with_reducible assumption) | assumption)
         have hx9 := bt_at a0 (ji6)
         replace p9 := eq_true p9
         replace q9 := eq_true q9
         go_enter Try.func14, Try.ntmps14
         go_wp2
         go_ret
         exact ⟨by first | rfl | (simp; done) | (simp only [← hji6] <;> (first | rfl | simp)) | (simp [*]; done), by repeat (first | exact Drawn0.refl _ | apply Drawn0.step)⟩
        ·rw [if_neg c12] at H
         exact absurd H (by simp)
       ·rw [if_neg c11] at H
        exact absurd H (by simp)
      ·rw [if_neg c10] at H
       have c10b0 : ((bt a0 (ji6)) == 59) = false := beq_eq_false_iff_ne.mpr c10
       have c10b1 : ((bt a0 (ji6)) != 59) = true := bne_iff_ne.mpr c10
       obtain rfl := Option.some.inj H
       have p4 : 0 ≤ (0 : Int) := (by omega)
       have q4 : 0 < a0.size := (by have : (0 : Int) < (a0.size : Int) := of_decide_eq_true (by first | (with_reducible assumption) | assumption); omega)
       have hx4 : ∀ h : 0 < a0.size, ((a0[0]'h).toNat : Int) = bt a0 0 := bt_at a0 0
       clear p4
       have qi4 : (0 < (a0.size : Int)) = True := eq_true (of_decide_eq_true (by first | (with_reducible assumption) | assumption))
       replace q4 := eq_true q4
       have p9 : 0 ≤ ((ji6) : Int) := of_decide_eq_true (by first | (with_reducible assumption) | assumption)
       have q9 : (ji6) < (a0.size : Int) := of_decide_eq_true (by first | (with_reducible assumption) | assumption)
       have hx9 := bt_at a0 (ji6)
       replace p9 := eq_true p9
       replace q9 := eq_true q9
       go_enter Try.func14, Try.ntmps14
       go_wp2
       go_ret
       exact ⟨by first | rfl | (simp; done) | (simp only [← hji6] <;> (first | rfl | simp)) | (simp [*]; done), by repeat (first | exact Drawn0.refl _ | apply Drawn0.step)⟩
     ·rw [if_neg c8] at H
      exact absurd H (by simp)
    ·rw [if_neg c7] at H
     exact absurd H (by simp)
   ·rw [if_neg c5] at H
    have c5b0 : ((bt a0 0) == 76) = false := beq_eq_false_iff_ne.mpr c5
    have c5b1 : ((bt a0 0) != 76) = true := bne_iff_ne.mpr c5
    obtain rfl := Option.some.inj H
    have p4 : 0 ≤ (0 : Int) := (by omega)
    have q4 : 0 < a0.size := (by have : (0 : Int) < (a0.size : Int) := of_decide_eq_true (by first | (with_reducible assumption) | assumption); omega)
    have hx4 : ∀ h : 0 < a0.size, ((a0[0]'h).toNat : Int) = bt a0 0 := bt_at a0 0
    clear p4
    have qi4 : (0 < (a0.size : Int)) = True := eq_true (of_decide_eq_true (by first | (with_reducible assumption) | assumption))
    replace q4 := eq_true q4
    go_enter Try.func14, Try.ntmps14
    go_wp2
    go_ret
    exact ⟨by first | rfl | (simp; done) | (simp [*]; done), by repeat (first | exact Drawn0.refl _ | apply Drawn0.step)⟩
  ·rw [if_neg c3] at H
   exact absurd H (by simp)
 ·rw [if_neg c2] at H
  have c2b0 : decide (2 < (a0.size : Int)) = false := decide_eq_false c2
  have c2b1 : decide (2 < a0.size) = false := decide_eq_false (by omega)
  clear c2
  obtain rfl := Option.some.inj H
  go_enter Try.func14, Try.ntmps14
  go_wp2
  go_ret
  exact ⟨by first | rfl | (simp; done) | (simp [*]; done), by repeat (first | exact Drawn0.refl _ | apply Drawn0.step)⟩

/-! ### desc_Name: function 18 -/
def nameCh (m : Bool) (c : Int) : Bool := decide ((97 ≤ c ∧ c ≤ 122) ∨ (65 ≤ c ∧ c ≤ 90) ∨ (48 ≤ c ∧ c ≤ 57) ∨ c = 95 ∨ c = 36 ∨ c = 47) || (m && decide (c = 60 ∨ c = 62))
theorem desc_Name_all (s : ByteArray) (m : Bool) (h : ∀ j, j < s.size → nameCh m ((s.data.toList.getD j 0).toNat : Int) = true) : s.data.toList.all (fun b => nameCh m b.toNat) = true := by
 rw [List.all_eq_true]
 intro x hx
 obtain ⟨j, hj, rfl⟩ := List.mem_iff_getElem.1 hx
 have := h j (by simpa using hj)
 rwa [List.getD_eq_getElem?_getD, List.getElem?_eq_getElem hj] at this
theorem desc_Name_not (s : ByteArray) (m : Bool) (j : Nat) (hj : j < s.size) (h : nameCh m ((s.data.toList.getD j 0).toNat : Int) = false) : s.data.toList.all (fun b => nameCh m b.toNat) = false := by
 rw [List.all_eq_false]
 have hl : j < s.data.toList.length := by simpa using hj
 refine ⟨s.data.toList[j], List.getElem_mem hl, ?_⟩
 rw [List.getD_eq_getElem?_getD, List.getElem?_eq_getElem hl] at h
 simp only [Option.getD_some] at h
 rw [h]; decide
/-- What Name answers, for a text of 1 to 60 bytes. -/
def NameP (s : ByteArray) (m : Bool) (w : World) (e : Ending) (w' : World) : Prop := e = .returned (.bool (s.data.toList.all (fun b => nameCh m b.toNat))) ∧ Below w.heap.size w w'
theorem NameP.mk (s : ByteArray) (m : Bool) (w : World) (b : Bool) (h : s.data.toList.all (fun b => nameCh m b.toNat) = b) : NameP s m w (.returned (.bool b)) (Lib.bytesWorld w 5 s) :=
 ⟨by rw [h], by
  refine ⟨rfl, rfl, rfl, by rw [Lib.bytesWorld_size]; omega, fun j hj => Lib.bytesWorld_at_old w 5 s j hj⟩⟩
def AllTo (s : ByteArray) (m : Bool) (k : Nat) : Prop := ∀ j, j < k → nameCh m ((s.data.toList.getD j 0).toNat : Int) = true
theorem AllTo.step {s : ByteArray} {m : Bool} {k : Nat} {c : Int} (h : AllTo s m k) (hc : ((s.data.toList.getD k 0).toNat : Int) = c) (hn : nameCh m c = true) : AllTo s m (k + 1) := fun j hj => by
 rcases Nat.lt_or_ge j k with h' | h'
 ·exact h j h'
 ·obtain rfl : j = k := by omega
  rw [hc]; exact hn
set_option maxHeartbeats 8000000 in
set_option maxRecDepth 100000 in
theorem desc_Name_in (s : ByteArray) (m : Bool) (w : World) (h1 : 1 ≤ s.size) (h2 : s.size ≤ 60) :
  Calls Try.prog 18 #[.string s, .bool m] w (NameP s m w) := by
 have h3 : 1 ≤ (s.size : Int) := by omega
 have h4 : (s.size : Int) ≤ 60 := by omega
 have kc := fun (w : World) => Lib.run_convert_string_bytes (P := Try.prog) w 9 39 5 s Try.underlying9 Try.underlying39 Try.underlying5
 go_enter Try.func18, Try.ntmps18
 go_wp2
 go_loop [19] (fun i => ∃ k : Nat, k ≤ s.size ∧ i = .int .i64 k ∧ AllTo s m k) (fun i => s.size - (intOf i).toNat)
 case atStart => exact ⟨0, Nat.zero_le _, rfl, fun j hj => absurd hj (Nat.not_lt_zero _)⟩
 case round =>
  obtain ⟨k, hk, rfl, hall⟩ := hrel
  have HALL := Aside0.mk hall
  clear hall
  by_cases hlt : k < s.size
  ·have hcell := Lib.bytesWorld_cell w 5 s k hlt
   have hlt' : (k : Int) < (s.size : Int) := by omega
   generalize hc : ((s.data.toList.getD k 0).toNat : Int) = c at hcell
   have HC := Aside0.mk hc
   clear hc
   have hb0 : 0 ≤ c := by rw [← HC.out]; omega
   rcases (by omega : (97 ≤ c ∧ c ≤ 122) ∨ (65 ≤ c ∧ c ≤ 90) ∨ (48 ≤ c ∧ c ≤ 57) ∨ c = 95 ∨ c = 36 ∨ c = 47 ∨ (122 < c) ∨ (91 ≤ c ∧ c ≤ 94) ∨ c = 96 ∨ (63 ≤ c ∧ c ≤ 64) ∨ c = 62 ∨ c = 61 ∨ c = 60 ∨ (58 ≤ c ∧ c ≤ 59) ∨ (37 ≤ c ∧ c ≤ 46) ∨ (c < 36)) with hx | hx | hx | hx | hx | hx | hx | hx | hx | hx | hx | hx | hx | hx | hx | hx
   all_goals
    first | (have f : 97 ≤ c := by omega) | (have f : ¬ 97 ≤ c := by omega)
    first | (have f : c ≤ 122 := by omega) | (have f : ¬ c ≤ 122 := by omega)
    first | (have f : 65 ≤ c := by omega) | (have f : ¬ 65 ≤ c := by omega)
    first | (have f : c ≤ 90 := by omega) | (have f : ¬ c ≤ 90 := by omega)
    first | (have f : 48 ≤ c := by omega) | (have f : ¬ 48 ≤ c := by omega)
    first | (have f : c ≤ 57 := by omega) | (have f : ¬ c ≤ 57 := by omega)
    first | (have f : (c == 95) = true := by simp; omega) | (have f : (c == 95) = false := by simp; omega)
    first | (have f : (c == 36) = true := by simp; omega) | (have f : (c == 36) = false := by simp; omega)
    first | (have f : (c == 47) = true := by simp; omega) | (have f : (c == 47) = false := by simp; omega)
    first | (have f : (c == 60) = true := by simp; omega) | (have f : (c == 60) = false := by simp; omega)
    first | (have f : (c == 62) = true := by simp; omega) | (have f : (c == 62) = false := by simp; omega)
    have HX := Aside0.mk hx
    clear hx
   all_goals cases m
   all_goals go_wp2
   all_goals first | (go_round; (case rel => exact ⟨k + 1, by omega, by go_num, HALL.out.step HC.out (by have hx := HX.out; unfold nameCh; simp; omega)⟩); (case measure => (simp [intOf]; omega))) | (go_ret; exact NameP.mk s _ w false (desc_Name_not s _ k hlt (by rw [HC.out]; have hx := HX.out; unfold nameCh; simp; omega)))
  ·have hlt' : ¬ (k : Int) < (s.size : Int) := by omega
   go_wp2
   go_ret
   exact NameP.mk s _ w true (desc_Name_all s m fun j hj => HALL.out j (by omega))

/-- Name: 1 to 60 bytes, each of which may stand in a name. -/
def nameB (s : ByteArray) (m : Bool) : Bool := decide (1 ≤ s.size ∧ s.size ≤ 60) && s.data.toList.all (fun b => nameCh m b.toNat)
def desc_Name.f (a0 : ByteArray) (a1 : Bool) : Option (Bool) := if a0.size ≤ 9223372036854775807 then some (nameB a0 a1) else none
set_option maxHeartbeats 8000000 in
set_option maxRecDepth 100000 in
theorem desc_Name_out (s : ByteArray) (m : Bool) (w : World) (h : s.size < 1 ∨ 60 < s.size) (hmax : s.size ≤ 9223372036854775807) :
  Calls Try.prog 18 #[.string s, .bool m] w fun e w' => e = .returned (.bool false) ∧ Below w.heap.size w w' := by
 by_cases h1 : s.size < 1
 ·have h2 : (s.size : Int) < 1 := by omega
  go_enter Try.func18, Try.ntmps18
  go_wp2
  go_ret
  exact ⟨rfl, by repeat (with_reducible first | exact Below.refl _ _ | apply below_alloc | apply pw_below_drewN | apply below_drew1)⟩
 ·have h2 : 1 ≤ (s.size : Int) := by omega
  have h3 : 60 < (s.size : Int) := by omega
  clear h h1
  go_enter Try.func18, Try.ntmps18
  go_wp2
  go_ret
  exact ⟨rfl, by repeat (with_reducible first | exact Below.refl _ _ | apply below_alloc | apply pw_below_drewN | apply below_drew1)⟩
theorem desc_Name.calls (a0 : ByteArray) (a1 : Bool) (r : Bool) (w : World) (h : desc_Name.f a0 a1 = some r) :
  Calls Try.prog 18 #[.string a0, .bool a1] w fun e w' => e = .returned (.bool r) ∧ Below w.heap.size w w' := by
 unfold desc_Name.f at h
 by_cases hm : a0.size ≤ 9223372036854775807
 ·rw [if_pos hm] at h
  obtain rfl := Option.some.inj h
  unfold nameB
  by_cases h1 : 1 ≤ a0.size ∧ a0.size ≤ 60
  ·rw [decide_eq_true h1, Bool.true_and]
   exact desc_Name_in a0 a1 w h1.1 h1.2
  ·rw [decide_eq_false h1, Bool.false_and]
   exact desc_Name_out a0 a1 w (by omega) hm
 ·rw [if_neg hm] at h; exact absurd h (by simp)

end Go.Proofs.Ytbbogkhidaekoaa.PAll
