-- only 03
/-
  The document's Bytes: Take, Num: as the reader's, by a place.
-/
import Derived.Test.YtedmhopginmjaaaOne
import Derived.Deep.RegionWith
namespace Go.Proofs.Ytedmhopginmjaaa.PAll
open Go.RowKit Go.Proofs.YtedmhopginmjaaaW.PrintWords Go.Proofs.YtedmhopginmjaaaW.PrintLast Go.Proofs.YtedmhopginmjaaaW.PrintMore
open Go.Proofs.Ytedmhopginmjaaa.MapInt
set_option linter.unusedVariables false
set_option linter.unusedSimpArgs false
/-- Bytes in block g: all of them, l those from the place on. -/
structure BS (W0 w : World) (g : Nat) (full l : List Int) (bad : Bool) : Prop where
  bel : Below W0.heap.size W0 w
  lg : W0.heap.size ≤ g
  u8 : ∀ x ∈ full, 0 ≤ x ∧ x < 256
  box : ∃ A c at_, Blk w g 29 #[.slice A full.length c, .int .i64 (at_ : Nat), .bool bad] ∧ full.length ≤ c ∧ Kd.C (Kd.int .u8) W0 A full.length full ∧ at_ ≤ full.length ∧ l = full.drop at_
section
variable {W0 w w2 : World} {g : Nat} {full l l2 : List Int} {bad bad2 : Bool}
theorem BS.below (h : BS W0 w g full l bad) (hb : Below w.heap.size w w2) : BS W0 w2 g full l bad := by
  obtain ⟨A, c, t, hB, r⟩ := h.box
  exact ⟨below_step h.bel hb, h.lg, h.u8, A, c, t, hB.below hb, r⟩
theorem BS.kept {row : Option Nat} (h : BS W0 w g full l bad) (hg : w.grownBy w2 row) (hne : some g ≠ row) (hr : ∀ k, row = some k → W0.heap.size ≤ k) : BS W0 w2 g full l bad := by
  obtain ⟨A, c, t, hB, r⟩ := h.box
  exact ⟨h.bel.grown hg h.bel.size hr, h.lg, h.u8, A, c, t, hB.kept hg hne, r⟩
end
theorem wsub (a b : Nat) (h : b ≤ a) (hm : a ≤ 9223372036854775807) : IntKind.i64.wrap ((a : Int) - (b : Int)) = (a : Int) - (b : Int) := IntWalk.i64_in _ ⟨by omega, by omega⟩
theorem wadd (a b m : Nat) (h : m = a + b) (hm : m ≤ 9223372036854775807) : IntKind.i64.wrap ((a : Int) + (b : Int)) = (m : Int) := by
  subst h
  rw [IntWalk.i64_in _ ⟨by omega, by omega⟩]; omega
theorem wadd64 (a b m : Nat) (h : m = a + b) (hm : m ≤ 9223372036854775807) : wrap64 ((a : Int) + (b : Int)) = (m : Int) := by
  subst h
  rw [wrap64_in _ ⟨by omega, by omega⟩]; omega
theorem wback (a b m : Nat) (h : m = a + b) (hm : m ≤ 9223372036854775807) : IntKind.i64.wrap ((m : Int) - (b : Int)) = (a : Int) := by
  subst h
  rw [IntWalk.i64_in _ ⟨by omega, by omega⟩]; omega
theorem sizeB : (Try.prog.info? 5).map (fun i => (i.zero, i.size, i.bytes)) = some (some (.int .u8 0), 1, 1) := by kernel_rfl
set_option maxHeartbeats 8000000 in
set_option maxRecDepth 100000 in
theorem btake_short (W0 w : World) (g : Nat) (full l : List Int) (bad : Bool) (n : Int) (h : BS W0 w g full l bad) (hn : n < 0 ∨ (l.length : Int) < n) :
    Calls Try.prog 13 #[.pointer (some ⟨g, 0, none⟩), .int .i64 n] w fun e w' => e = .returned (.string ⟨#[]⟩) ∧ BS W0 w' g full [] true ∧ w.grownBy w' (some g) := by
  obtain ⟨A, c, t, hB, hc, hC, ht, hl⟩ := h.box
  have hm := Kd.C_max hC
  have h0 : w.cell? ⟨g, 0, none⟩ = some (.slice A full.length c) := hB.cell rfl
  have h1 : w.cell? ⟨g, 1, none⟩ = some (.int .i64 (t : Nat)) := hB.cell rfl
  have h2 : w.cell? ⟨g, 2, none⟩ = some (.bool bad) := hB.cell rfl
  have f1 : w.frozen? ⟨g, 1, none⟩ = false := frozen_of_row _ _ _ _ _ hB
  have f2 : w.frozen? ⟨g, 2, none⟩ = false := frozen_of_row _ _ _ _ _ hB
  obtain ⟨q1, q2, q3⟩ := setCell_blk (q := 1) (v := .int .i64 (full.length : Nat)) hB (by simp)
  obtain ⟨r1, r2, r3⟩ := setCell_blk (q := 2) (v := .bool true) q1 (by simp)
  have HR : Aside0 (BS W0 ((w.setCell ⟨g, 1, none⟩ (.int .i64 (full.length : Nat))).setCell ⟨g, 2, none⟩ (.bool true)) g full [] true) :=
    ⟨⟨h.bel.grown (q2.trans r2) h.bel.size (fun k hk => by cases hk; exact h.lg), h.lg, h.u8, A, c, full.length, by simpa using r1, hc, hC, Nat.le_refl _, by simp⟩⟩
  have HG := Aside0.mk (q2.trans r2)
  have hll : (l.length : Int) = (full.length : Int) - (t : Int) := by rw [hl, List.length_drop]; omega
  have hw := wsub full.length t ht hm
  clear q1 q2 q3 r1 r2 r3 hC
  by_cases hn0 : n < 0
  · have hd : decide (n < 0) = true := decide_eq_true hn0
    go_enter Try.func13, Try.ntmps13
    go_wp2_with fail
    go_quiet (fail)
    go_wp2_with fail
    (try go_ret)
    exact ⟨rfl, HR.out.below (pw_below_drewN (Below.refl _ _) _), HG.out.trans (gr_below (pw_below_drewN (Below.refl _ _) _))⟩
  · have hd : decide (n < 0) = false := decide_eq_false hn0
    have hln : (full.length : Int) - (t : Int) < n := by omega
    go_enter Try.func13, Try.ntmps13
    go_wp2_with fail
    go_quiet (fail)
    go_wp2_with fail
    (try go_ret)
    exact ⟨rfl, HR.out.below (pw_below_drewN (Below.refl _ _) _), HG.out.trans (gr_below (pw_below_drewN (Below.refl _ _) _))⟩
set_option maxHeartbeats 8000000 in
set_option maxRecDepth 100000 in
theorem btake_ok (W0 w : World) (g : Nat) (full l : List Int) (bad : Bool) (n : Nat) (h : BS W0 w g full l bad) (hn : n ≤ l.length) :
    Calls Try.prog 13 #[.pointer (some ⟨g, 0, none⟩), .int .i64 n] w fun e w' => e = .returned (.string (strOfNums (l.take n))) ∧ BS W0 w' g full (l.drop n) bad ∧ w.grownBy w' (some g) := by
  obtain ⟨A, c, t, hB, hc, hC, ht, hl⟩ := h.box
  have hm := Kd.C_max hC
  have hll : l.length = full.length - t := by rw [hl, List.length_drop]
  have h0 : w.cell? ⟨g, 0, none⟩ = some (.slice A full.length c) := hB.cell rfl
  have h1 : w.cell? ⟨g, 1, none⟩ = some (.int .i64 (t : Nat)) := hB.cell rfl
  have f1 : w.frozen? ⟨g, 1, none⟩ = false := frozen_of_row _ _ _ _ _ hB
  obtain ⟨m, hmm⟩ : ∃ m : Nat, m = t + n := ⟨_, rfl⟩
  have hcast : (t : Int) + (n : Int) = (m : Int) := by omega
  obtain ⟨q1, q2, q3⟩ := setCell_blk (q := 1) (v := .int .i64 (m : Nat)) hB (by simp)
  have HR : Aside0 (BS W0 (w.setCell ⟨g, 1, none⟩ (.int .i64 (m : Nat))) g full (l.drop n) bad) :=
    ⟨⟨h.bel.grown q2 h.bel.size (fun k hk => by cases hk; exact h.lg), h.lg, h.u8, A, c, m, by simpa using q1, hc, hC, by omega, by rw [hl, List.drop_drop, hmm]⟩⟩
  have HG := Aside0.mk q2
  obtain ⟨i8, ii1, ii2, ii3, ii4⟩ : ∃ i, Try.prog.info? 5 = some i ∧ i.zero = some (.int .u8 0) ∧ i.size = 1 ∧ i.bytes = 1 := by
    obtain ⟨i, a, b⟩ := Option.map_eq_some_iff.1 sizeB
    simp only [Prod.mk.injEq] at b
    exact ⟨i, a, b.1, b.2.1, b.2.2⟩
  have hcm := cut_mid (P := Try.prog) 22 5 .i64 .i64 Try.underlying22 ii1 1 ii3 A full.length c (t : Int) (m : Int) (by omega) (by omega) (by omega) hc
  rw [Int.toNat_natCast, Int.toNat_natCast, show m - t = n by omega] at hcm
  obtain ⟨A2, hA2⟩ : ∃ A2, A2 = (if c = t then A else A.map (fun x => x.add (t * 1))) := ⟨_, rfl⟩
  rw [← hA2] at hcm
  have hC2 := Kd.C_mid (k := Kd.int .u8) (lo := t) (hi := m) hC (by omega) (by omega) hc
  have hlt : (full.take m).drop t = l.take n := by rw [hl, hmm, List.take_drop]
  rw [hlt] at hC2
  have hln : (l.take n).length = n := by rw [List.length_take]; omega
  have HCV : Aside0 (∀ w2, Below W0.heap.size W0 w2 → (convert 22 9 (.slice A2 n (c - t))).run Try.prog w2 = .ok (.string (strOfNums (l.take n))) w2) := ⟨fun w2 hb => by
    have h3 := Kd.C_string (P := Try.prog) (src := 22) (dst := 9) (c := c - t) Try.underlying22 Try.underlying5 Try.underlying9 (Kd.C_below (w1 := w2) hC2 hb)
    rw [hln] at h3
    rw [hA2]; exact h3⟩
  have hcv : ∀ j k, (convert 22 9 (.slice A2 n (c - t))).run Try.prog (((w.drewN j).setCell ⟨g, 1, none⟩ (.int .i64 (m : Nat))).drewN k) = .ok (.string (strOfNums (l.take n))) (((w.drewN j).setCell ⟨g, 1, none⟩ (.int .i64 (m : Nat))).drewN k) := fun j k => HCV.out _ (pw_below_drewN (show Below W0.heap.size W0 ((w.setCell ⟨g, 1, none⟩ (.int .i64 (m : Nat))).drewN j) from pw_below_drewN HR.out.bel _) _)
  have hmb : m ≤ 9223372036854775807 := by omega
  have hd : decide ((n : Int) < 0) = false := decide_eq_false (by omega)
  have hd2 : decide ((full.length : Int) - (t : Int) < (n : Int)) = false := decide_eq_false (by omega)
  have hln2 : ¬ (full.length : Int) - (t : Int) < (n : Int) := by omega
  have hw1 := wsub full.length t ht hm
  have hw2 := wadd t n m hmm hmb
  have hw3 := wback t n m hmm hmb
  have hw4 := wadd64 t n m hmm hmb
  clear q1 q2 q3 hC hC2 hA2 hlt HCV hcast hmm hl
  go_enter Try.func13, Try.ntmps13
  go_wp2_with fail
  go_quiet (fail)
  go_wp2_with fail
  go_quiet (fail)
  go_wp2_with fail
  (try go_ret)
  exact ⟨rfl, HR.out.below (pw_below_drewN (show Below _ _ ((w.setCell ⟨g, 1, none⟩ (.int .i64 (m : Nat))).drewN _) from pw_below_drewN (Below.refl _ _) _) _), HG.out.trans (gr_below (pw_below_drewN (show Below _ _ ((w.setCell ⟨g, 1, none⟩ (.int .i64 (m : Nat))).drewN _) from pw_below_drewN (Below.refl _ _) _) _))⟩
end Go.Proofs.Ytedmhopginmjaaa.PAll
