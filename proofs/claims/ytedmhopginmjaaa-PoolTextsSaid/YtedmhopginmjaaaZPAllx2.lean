import Derived.Test.YtedmhopginmjaaaZG7
namespace Go.Proofs.Ytedmhopginmjaaa.PAll
open Go.RowKit Go.Proofs.YtedmhopginmjaaaW.PrintWords Go.Proofs.YtedmhopginmjaaaW.PrintLast Go.Proofs.YtedmhopginmjaaaW.PrintMore
attribute [local go_sem] max2_int min2_int max_two min_two max_three min_three max_four min_four   
set_option linter.unusedVariables false
set_option linter.unusedSimpArgs false
def IsS58 (w0 W : World) (g : Nat) (f0 : List Int) (f1 : Bool) : Prop := ∃ A0 c0, W.heap[g]? = some (.cells #[.slice A0 f0.length c0, .bool f1] 58 (0, 0)) ∧ w0.heap.size ≤ g ∧ Kd.C (Kd.int .u8) w0 A0 f0.length f0
theorem IsS58.grown {w0 W : World} {g : Nat} {f0 : List Int} {f1 : Bool} {W1 : World} {row : Option Nat} (h : IsS58 w0 W g f0 f1) (hw : W.grownBy W1 row) (hne : some g ≠ row) : IsS58 w0 W1 g f0 f1 := by
 obtain ⟨A0, c0, hb, hg, hr0⟩ := h
 exact ⟨A0, c0, blk_grown hb hw hne, hg, hr0⟩
theorem IsS58.kept {w0 W : World} {g : Nat} {f0 : List Int} {f1 : Bool} {W1 : World} {S : Nat → Prop} (h : IsS58 w0 W g f0 f1) (hk : Kept W W1 S) (hne : ¬ S g) : IsS58 w0 W1 g f0 f1 := by
 obtain ⟨A0, c0, hb, hg, hr0⟩ := h
 exact ⟨A0, c0, blk_kept hb hk hne, hg, hr0⟩
theorem IsS58.below {w0 W : World} {g : Nat} {f0 : List Int} {f1 : Bool} {W1 : World} (h : IsS58 w0 W g f0 f1) (hw : Below W.heap.size W W1) : IsS58 w0 W1 g f0 f1 := h.grown (grown_of_below hw none) (by simp)
theorem IsS58.alloc {w0 W : World} {g : Nat} {f0 : List Int} {f1 : Bool} (h : IsS58 w0 W g f0 f1) (o : Obj) : IsS58 w0 (W.alloc o) g f0 f1 := h.below (below_alloc (Below.refl _ _) o)
theorem IsS58.drewN {w0 W : World} {g : Nat} {f0 : List Int} {f1 : Bool} (h : IsS58 w0 W g f0 f1) (m : Nat) : IsS58 w0 (W.drewN m) g f0 f1 := h
theorem IsS58.drew {w0 W : World} {g : Nat} {f0 : List Int} {f1 : Bool} (h : IsS58 w0 W g f0 f1) : IsS58 w0 W.drew g f0 f1 := h
theorem IsS58.at_ {w0 W : World} {g : Nat} {f0 : List Int} {f1 : Bool} {w' : World} {m : Nat} (hq : W.drewN m = w') (h : IsS58 w0 W g f0 f1) : IsS58 w0 w' g f0 f1 := by subst hq; exact IsS58.drewN h m
theorem IsS58.lt {w0 W : World} {g : Nat} {f0 : List Int} {f1 : Bool} (h : IsS58 w0 W g f0 f1) : g < W.heap.size := by
 obtain ⟨A0, c0, hb, hg, hr0⟩ := h
 exact blk_lt hb
def pool_From.f (l0 : List Int) : Option (List Int × Bool) := some (l0, false)
set_option maxHeartbeats 8000000 in
set_option maxRecDepth 100000 in
theorem pool_From.calls (A0 : Option Addr) (c0 : Nat) (l0 : List Int) (r1 : List Int) (r2 : Bool) (w0 w : World) (hB : Below w0.heap.size w0 w) (hr0 : Kd.C (Kd.int .u8) w0 A0 l0.length l0) (hc0 : l0.length ≤ c0) (h : pool_From.f l0 = some (r1, r2)) :
  Calls Try.prog 9 #[.slice A0 l0.length c0] w fun e w' => ∃ g_ : Nat, e = .returned (.pointer (some ⟨g_, 0, none⟩)) ∧ IsS58 w0 w' g_ r1 r2 ∧ Below w0.heap.size w0 w' ∧ Below w.heap.size w w' := by
 have hu58 := Try.underlying58
 have HR0 := Aside0.mk hr0
 have HC0 := Aside0.mk hc0
 clear hr0 hc0
 have HBW := Aside0.mk (Below.refl w.heap.size w)
 have HW0 := Aside0.mk hB.size
 have HB := Aside0.mk hB
 clear hB
 have H : (some (l0, false)) = some (r1, r2) := h
 clear h
 simp only [Option.some.injEq, Prod.mk.injEq] at H
 obtain ⟨rfl, rfl⟩ := H
 go_enter Try.func9, Try.ntmps9
 go_wp2_with (first | ((with_reducible refine gate_dst (N := 5) rfl ?_); refine box_event ?hg (N := 5) ?hd (cs := #[.slice A0 l0.length c0, .bool false]) (t := 58) ?hr ?_; (case hd => rfl); (case hg => rfl); (case hr => first | (go_simp; done) | (go_simp; rfl)); intro gb101 hg w2 hbox hb; have n0_ := Aside0.mk (below_step HBW.out hb); have n1_ := Aside0.mk (below_step (by repeat (first | (with_reducible first | exact HB.out | apply below_alloc | apply pw_below_drewN | apply below_drew1) | exact HB.out)) hb); have n2_ := Aside0.mk (hbox); have n3_ := Aside0.mk ((by rw [hg]; exact (below_size (by repeat (first | (with_reducible first | exact HBW.out | apply below_alloc | apply pw_below_drewN | apply below_drew1) | exact HBW.out))) : w.heap.size ≤ gb101)); have n4_ := Aside0.mk ((Nat.le_trans HW0.out (by rw [hg]; exact (below_size (by repeat (first | (with_reducible first | exact HBW.out | apply below_alloc | apply pw_below_drewN | apply below_drew1) | exact HBW.out))) : w.heap.size ≤ gb101) : w0.heap.size ≤ gb101)); clear HBW; clear HB; have HBW := n0_; have HB := n1_; have BK101 := n2_; have GW101 := n3_; have GE101 := n4_; clear n0_ n1_ n2_ n3_ n4_; clear hb hbox hg))
 go_ret
 exact ⟨_, rfl, (show IsS58 w0 _ gb101 l0 false from ⟨_, _, by (with_reducible repeat (first | refine blk_drewN ?_ _ | refine blk_drew ?_ | refine blk_alloc ?_ _)); exact BK101.out, GE101.out, HR0.out⟩), by repeat (first | (with_reducible first | exact HB.out | apply below_alloc | apply pw_below_drewN | apply below_drew1 | refine below_set ?_ GE101.out) | exact HB.out), by repeat (first | (with_reducible first | exact HBW.out | apply below_alloc | apply pw_below_drewN | apply below_drew1 | refine below_set ?_ GW101.out) | exact HBW.out)⟩
def nameCh (m : Bool) (c : Int) : Bool := decide ((97 ≤ c ∧ c ≤ 122) ∨ (65 ≤ c ∧ c ≤ 90) ∨ (48 ≤ c ∧ c ≤ 57) ∨ c = 95 ∨ c = 36 ∨ c = 47) || (m && decide (c = 60 ∨ c = 62))
theorem desc_Name_all (s : ByteArray) (m : Bool) (h : ∀ j, j < s.size → nameCh m ((s.data.toList.getD j 0).toNat : Int) = true) : s.data.toList.all (fun b => nameCh m b.toNat) = true := by
 rw [List.all_eq_true]
 intro x hx
 obtain ⟨j, hj, rfl⟩ := List.mem_iff_getElem.1 hx
 have := h j (by simpa using hj)
 rwa [List.getD_eq_getElem?_getD, List.getElem?_eq_getElem hj] at this
theorem desc_Name_not (s : ByteArray) (m : Bool) (j : Nat) (hj : j < s.size) (h : nameCh m ((s.data.toList.getD j 0).toNat : Int) = false) : s.data.toList.all (fun b => nameCh m b.toNat) = false := by
 rw [List.all_eq_false]
 have hl : j < s.data.toList.length := by simpa using hj
 refine ⟨s.data.toList[j], List.getElem_mem hl, ?_⟩
 rw [List.getD_eq_getElem?_getD, List.getElem?_eq_getElem hl] at h
 simp only [Option.getD_some] at h
 rw [h]; decide
def NameP (s : ByteArray) (m : Bool) (w : World) (e : Ending) (w' : World) : Prop := e = .returned (.bool (s.data.toList.all (fun b => nameCh m b.toNat))) ∧ Below w.heap.size w w'
theorem NameP.mk (s : ByteArray) (m : Bool) (w : World) (b : Bool) (h : s.data.toList.all (fun b => nameCh m b.toNat) = b) : NameP s m w (.returned (.bool b)) (Lib.bytesWorld w 5 s) :=
 ⟨by rw [h], by
  refine ⟨rfl, rfl, rfl, by rw [Lib.bytesWorld_size]; omega, fun j hj => Lib.bytesWorld_at_old w 5 s j hj⟩⟩
def AllTo (s : ByteArray) (m : Bool) (k : Nat) : Prop := ∀ j, j < k → nameCh m ((s.data.toList.getD j 0).toNat : Int) = true
theorem AllTo.step {s : ByteArray} {m : Bool} {k : Nat} {c : Int} (h : AllTo s m k) (hc : ((s.data.toList.getD k 0).toNat : Int) = c) (hn : nameCh m c = true) : AllTo s m (k + 1) := fun j hj => by
 rcases Nat.lt_or_ge j k with h' | h'
 ·exact h j h'
 ·obtain rfl : j = k := by omega
  rw [hc]; exact hn
set_option maxHeartbeats 8000000 in
set_option maxRecDepth 100000 in
theorem desc_Name_in (s : ByteArray) (m : Bool) (w : World) (h1 : 1 ≤ s.size) (h2 : s.size ≤ 60) :
  Calls Try.prog 16 #[.string s, .bool m] w (NameP s m w) := by
 have h3 : 1 ≤ (s.size : Int) := by omega
 have h4 : (s.size : Int) ≤ 60 := by omega
 have kc := fun (w : World) => Lib.run_convert_string_bytes (P := Try.prog) w 9 22 5 s Try.underlying9 Try.underlying22 Try.underlying5
 go_enter Try.func16, Try.ntmps16
 go_wp2
 go_loop [19] (fun i => ∃ k : Nat, k ≤ s.size ∧ i = .int .i64 k ∧ AllTo s m k) (fun i => s.size - (intOf i).toNat)
 case atStart => exact ⟨0, Nat.zero_le _, rfl, fun j hj => absurd hj (Nat.not_lt_zero _)⟩
 case round =>
  obtain ⟨k, hk, rfl, hall⟩ := hrel
  have HALL := Aside0.mk hall
  clear hall
  by_cases hlt : k < s.size
  ·have hcell := Lib.bytesWorld_cell w 5 s k hlt
   have hlt' : (k : Int) < (s.size : Int) := by omega
   generalize hc : ((s.data.toList.getD k 0).toNat : Int) = c at hcell
   have HC := Aside0.mk hc
   clear hc
   have hb0 : 0 ≤ c := by rw [← HC.out]; omega
   rcases (by omega : (97 ≤ c ∧ c ≤ 122) ∨ (65 ≤ c ∧ c ≤ 90) ∨ (48 ≤ c ∧ c ≤ 57) ∨ c = 95 ∨ c = 36 ∨ c = 47 ∨ (122 < c) ∨ (91 ≤ c ∧ c ≤ 94) ∨ c = 96 ∨ (63 ≤ c ∧ c ≤ 64) ∨ c = 62 ∨ c = 61 ∨ c = 60 ∨ (58 ≤ c ∧ c ≤ 59) ∨ (37 ≤ c ∧ c ≤ 46) ∨ (c < 36)) with hx | hx | hx | hx | hx | hx | hx | hx | hx | hx | hx | hx | hx | hx | hx | hx
   all_goals
    first | (have f : 97 ≤ c := by omega) | (have f : ¬ 97 ≤ c := by omega)
    first | (have f : c ≤ 122 := by omega) | (have f : ¬ c ≤ 122 := by omega)
    first | (have f : 65 ≤ c := by omega) | (have f : ¬ 65 ≤ c := by omega)
    first | (have f : c ≤ 90 := by omega) | (have f : ¬ c ≤ 90 := by omega)
    first | (have f : 48 ≤ c := by omega) | (have f : ¬ 48 ≤ c := by omega)
    first | (have f : c ≤ 57 := by omega) | (have f : ¬ c ≤ 57 := by omega)
    first | (have f : (c == 95) = true := by simp; omega) | (have f : (c == 95) = false := by simp; omega)
    first | (have f : (c == 36) = true := by simp; omega) | (have f : (c == 36) = false := by simp; omega)
    first | (have f : (c == 47) = true := by simp; omega) | (have f : (c == 47) = false := by simp; omega)
    first | (have f : (c == 60) = true := by simp; omega) | (have f : (c == 60) = false := by simp; omega)
    first | (have f : (c == 62) = true := by simp; omega) | (have f : (c == 62) = false := by simp; omega)
    have HX := Aside0.mk hx
    clear hx
   all_goals cases m
   all_goals go_wp2
   all_goals first | (go_round; (case rel => exact ⟨k + 1, by omega, by go_num, HALL.out.step HC.out (by have hx := HX.out; unfold nameCh; simp; omega)⟩); (case measure => (simp [intOf]; omega))) | (go_ret; exact NameP.mk s _ w false (desc_Name_not s _ k hlt (by rw [HC.out]; have hx := HX.out; unfold nameCh; simp; omega)))
  ·have hlt' : ¬ (k : Int) < (s.size : Int) := by omega
   go_wp2
   go_ret
   exact NameP.mk s _ w true (desc_Name_all s m fun j hj => HALL.out j (by omega))
def nameB (s : ByteArray) (m : Bool) : Bool := decide (1 ≤ s.size ∧ s.size ≤ 60) && s.data.toList.all (fun b => nameCh m b.toNat)
def desc_Name.f (a0 : ByteArray) (a1 : Bool) : Option (Bool) := if a0.size ≤ 9223372036854775807 then some (nameB a0 a1) else none
set_option maxHeartbeats 8000000 in
set_option maxRecDepth 100000 in
theorem desc_Name_out (s : ByteArray) (m : Bool) (w : World) (h : s.size < 1 ∨ 60 < s.size) (hmax : s.size ≤ 9223372036854775807) :
  Calls Try.prog 16 #[.string s, .bool m] w fun e w' => e = .returned (.bool false) ∧ Below w.heap.size w w' := by
 by_cases h1 : s.size < 1
 ·have h2 : (s.size : Int) < 1 := by omega
  go_enter Try.func16, Try.ntmps16
  go_wp2
  go_ret
  exact ⟨rfl, by repeat (with_reducible first | exact Below.refl _ _ | apply below_alloc | apply pw_below_drewN | apply below_drew1)⟩
 ·have h2 : 1 ≤ (s.size : Int) := by omega
  have h3 : 60 < (s.size : Int) := by omega
  clear h h1
  go_enter Try.func16, Try.ntmps16
  go_wp2
  go_ret
  exact ⟨rfl, by repeat (with_reducible first | exact Below.refl _ _ | apply below_alloc | apply pw_below_drewN | apply below_drew1)⟩
theorem desc_Name.calls (a0 : ByteArray) (a1 : Bool) (r : Bool) (w : World) (h : desc_Name.f a0 a1 = some r) :
  Calls Try.prog 16 #[.string a0, .bool a1] w fun e w' => e = .returned (.bool r) ∧ Below w.heap.size w w' := by
 unfold desc_Name.f at h
 by_cases hm : a0.size ≤ 9223372036854775807
 ·rw [if_pos hm] at h
  obtain rfl := Option.some.inj h
  unfold nameB
  by_cases h1 : 1 ≤ a0.size ∧ a0.size ≤ 60
  ·rw [decide_eq_true h1, Bool.true_and]
   exact desc_Name_in a0 a1 w h1.1 h1.2
  ·rw [decide_eq_false h1, Bool.false_and]
   exact desc_Name_out a0 a1 w (by omega) hm
 ·rw [if_neg hm] at h; exact absurd h (by simp)
end Go.Proofs.Ytedmhopginmjaaa.PAll
