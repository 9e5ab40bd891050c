import Derived.Test.YtedmhopginmjaaaZOne
import Derived.Deep.RegionWith
section
namespace Go.Proofs.Ytedmhopginmjaaa.PAll
open Go.RowKit Go.Proofs.YtedmhopginmjaaaW.PrintWords Go.Proofs.YtedmhopginmjaaaW.PrintLast Go.Proofs.YtedmhopginmjaaaW.PrintMore
open Go.Proofs.Ytedmhopginmjaaa.MapInt
set_option linter.unusedVariables false
set_option linter.unusedSimpArgs false
structure BS (W0 w : World) (g : Nat) (full l : List Int) (bad : Bool) : Prop where
  bel : Below W0.heap.size W0 w
  lg : W0.heap.size ≤ g
  u8 : ∀ x ∈ full, 0 ≤ x ∧ x < 256
  box : ∃ A c at_, Blk w g 29 #[.slice A full.length c, .int .i64 (at_ : Nat), .bool bad] ∧ full.length ≤ c ∧ Kd.C (Kd.int .u8) W0 A full.length full ∧ at_ ≤ full.length ∧ l = full.drop at_
section
variable {W0 w w2 : World} {g : Nat} {full l l2 : List Int} {bad bad2 : Bool}
theorem BS.below (h : BS W0 w g full l bad) (hb : Below w.heap.size w w2) : BS W0 w2 g full l bad := by
  obtain ⟨A, c, t, hB, r⟩ := h.box
  exact ⟨below_step h.bel hb, h.lg, h.u8, A, c, t, hB.below hb, r⟩
theorem BS.kept {row : Option Nat} (h : BS W0 w g full l bad) (hg : w.grownBy w2 row) (hne : some g ≠ row) (hr : ∀ k, row = some k → W0.heap.size ≤ k) : BS W0 w2 g full l bad := by
  obtain ⟨A, c, t, hB, r⟩ := h.box
  exact ⟨h.bel.grown hg h.bel.size hr, h.lg, h.u8, A, c, t, hB.kept hg hne, r⟩
end
theorem wsub (a b : Nat) (h : b ≤ a) (hm : a ≤ 9223372036854775807) : IntKind.i64.wrap ((a : Int) - (b : Int)) = (a : Int) - (b : Int) := IntWalk.i64_in _ ⟨by omega, by omega⟩
theorem wadd (a b m : Nat) (h : m = a + b) (hm : m ≤ 9223372036854775807) : IntKind.i64.wrap ((a : Int) + (b : Int)) = (m : Int) := by
  subst h
  rw [IntWalk.i64_in _ ⟨by omega, by omega⟩]; omega
theorem wadd64 (a b m : Nat) (h : m = a + b) (hm : m ≤ 9223372036854775807) : wrap64 ((a : Int) + (b : Int)) = (m : Int) := by
  subst h
  rw [wrap64_in _ ⟨by omega, by omega⟩]; omega
theorem wback (a b m : Nat) (h : m = a + b) (hm : m ≤ 9223372036854775807) : IntKind.i64.wrap ((m : Int) - (b : Int)) = (a : Int) := by
  subst h
  rw [IntWalk.i64_in _ ⟨by omega, by omega⟩]; omega
theorem sizeB : (Try.prog.info? 5).map (fun i => (i.zero, i.size, i.bytes)) = some (some (.int .u8 0), 1, 1) := by kernel_rfl
set_option maxHeartbeats 8000000 in
set_option maxRecDepth 100000 in
theorem btake_short (W0 w : World) (g : Nat) (full l : List Int) (bad : Bool) (n : Int) (h : BS W0 w g full l bad) (hn : n < 0 ∨ (l.length : Int) < n) :
    Calls Try.prog 13 #[.pointer (some ⟨g, 0, none⟩), .int .i64 n] w fun e w' => e = .returned (.string ⟨#[]⟩) ∧ BS W0 w' g full [] true ∧ w.grownBy w' (some g) := by
  obtain ⟨A, c, t, hB, hc, hC, ht, hl⟩ := h.box
  have hm := Kd.C_max hC
  have h0 : w.cell? ⟨g, 0, none⟩ = some (.slice A full.length c) := hB.cell rfl
  have h1 : w.cell? ⟨g, 1, none⟩ = some (.int .i64 (t : Nat)) := hB.cell rfl
  have h2 : w.cell? ⟨g, 2, none⟩ = some (.bool bad) := hB.cell rfl
  have f1 : w.frozen? ⟨g, 1, none⟩ = false := frozen_of_row _ _ _ _ _ hB
  have f2 : w.frozen? ⟨g, 2, none⟩ = false := frozen_of_row _ _ _ _ _ hB
  obtain ⟨q1, q2, q3⟩ := setCell_blk (q := 1) (v := .int .i64 (full.length : Nat)) hB (by simp)
  obtain ⟨r1, r2, r3⟩ := setCell_blk (q := 2) (v := .bool true) q1 (by simp)
  have HR : Aside0 (BS W0 ((w.setCell ⟨g, 1, none⟩ (.int .i64 (full.length : Nat))).setCell ⟨g, 2, none⟩ (.bool true)) g full [] true) :=
    ⟨⟨h.bel.grown (q2.trans r2) h.bel.size (fun k hk => by cases hk; exact h.lg), h.lg, h.u8, A, c, full.length, by simpa using r1, hc, hC, Nat.le_refl _, by simp⟩⟩
  have HG := Aside0.mk (q2.trans r2)
  have hll : (l.length : Int) = (full.length : Int) - (t : Int) := by rw [hl, List.length_drop]; omega
  have hw := wsub full.length t ht hm
  clear q1 q2 q3 r1 r2 r3 hC
  by_cases hn0 : n < 0
  · have hd : decide (n < 0) = true := decide_eq_true hn0
    go_enter Try.func13, Try.ntmps13
    go_wp2_with fail
    go_quiet (fail)
    go_wp2_with fail
    (try go_ret)
    exact ⟨rfl, HR.out.below (pw_below_drewN (Below.refl _ _) _), HG.out.trans (gr_below (pw_below_drewN (Below.refl _ _) _))⟩
  · have hd : decide (n < 0) = false := decide_eq_false hn0
    have hln : (full.length : Int) - (t : Int) < n := by omega
    go_enter Try.func13, Try.ntmps13
    go_wp2_with fail
    go_quiet (fail)
    go_wp2_with fail
    (try go_ret)
    exact ⟨rfl, HR.out.below (pw_below_drewN (Below.refl _ _) _), HG.out.trans (gr_below (pw_below_drewN (Below.refl _ _) _))⟩
set_option maxHeartbeats 8000000 in
set_option maxRecDepth 100000 in
theorem btake_ok (W0 w : World) (g : Nat) (full l : List Int) (bad : Bool) (n : Nat) (h : BS W0 w g full l bad) (hn : n ≤ l.length) :
    Calls Try.prog 13 #[.pointer (some ⟨g, 0, none⟩), .int .i64 n] w fun e w' => e = .returned (.string (strOfNums (l.take n))) ∧ BS W0 w' g full (l.drop n) bad ∧ w.grownBy w' (some g) := by
  obtain ⟨A, c, t, hB, hc, hC, ht, hl⟩ := h.box
  have hm := Kd.C_max hC
  have hll : l.length = full.length - t := by rw [hl, List.length_drop]
  have h0 : w.cell? ⟨g, 0, none⟩ = some (.slice A full.length c) := hB.cell rfl
  have h1 : w.cell? ⟨g, 1, none⟩ = some (.int .i64 (t : Nat)) := hB.cell rfl
  have f1 : w.frozen? ⟨g, 1, none⟩ = false := frozen_of_row _ _ _ _ _ hB
  obtain ⟨m, hmm⟩ : ∃ m : Nat, m = t + n := ⟨_, rfl⟩
  have hcast : (t : Int) + (n : Int) = (m : Int) := by omega
  obtain ⟨q1, q2, q3⟩ := setCell_blk (q := 1) (v := .int .i64 (m : Nat)) hB (by simp)
  have HR : Aside0 (BS W0 (w.setCell ⟨g, 1, none⟩ (.int .i64 (m : Nat))) g full (l.drop n) bad) :=
    ⟨⟨h.bel.grown q2 h.bel.size (fun k hk => by cases hk; exact h.lg), h.lg, h.u8, A, c, m, by simpa using q1, hc, hC, by omega, by rw [hl, List.drop_drop, hmm]⟩⟩
  have HG := Aside0.mk q2
  obtain ⟨i8, ii1, ii2, ii3, ii4⟩ : ∃ i, Try.prog.info? 5 = some i ∧ i.zero = some (.int .u8 0) ∧ i.size = 1 ∧ i.bytes = 1 := by
    obtain ⟨i, a, b⟩ := Option.map_eq_some_iff.1 sizeB
    simp only [Prod.mk.injEq] at b
    exact ⟨i, a, b.1, b.2.1, b.2.2⟩
  have hcm := cut_mid (P := Try.prog) 22 5 .i64 .i64 Try.underlying22 ii1 1 ii3 A full.length c (t : Int) (m : Int) (by omega) (by omega) (by omega) hc
  rw [Int.toNat_natCast, Int.toNat_natCast, show m - t = n by omega] at hcm
  obtain ⟨A2, hA2⟩ : ∃ A2, A2 = (if c = t then A else A.map (fun x => x.add (t * 1))) := ⟨_, rfl⟩
  rw [← hA2] at hcm
  have hC2 := Kd.C_mid (k := Kd.int .u8) (lo := t) (hi := m) hC (by omega) (by omega) hc
  have hlt : (full.take m).drop t = l.take n := by rw [hl, hmm, List.take_drop]
  rw [hlt] at hC2
  have hln : (l.take n).length = n := by rw [List.length_take]; omega
  have HCV : Aside0 (∀ w2, Below W0.heap.size W0 w2 → (convert 22 9 (.slice A2 n (c - t))).run Try.prog w2 = .ok (.string (strOfNums (l.take n))) w2) := ⟨fun w2 hb => by
    have h3 := Kd.C_string (P := Try.prog) (src := 22) (dst := 9) (c := c - t) Try.underlying22 Try.underlying5 Try.underlying9 (Kd.C_below (w1 := w2) hC2 hb)
    rw [hln] at h3
    rw [hA2]; exact h3⟩
  have hcv : ∀ j k, (convert 22 9 (.slice A2 n (c - t))).run Try.prog (((w.drewN j).setCell ⟨g, 1, none⟩ (.int .i64 (m : Nat))).drewN k) = .ok (.string (strOfNums (l.take n))) (((w.drewN j).setCell ⟨g, 1, none⟩ (.int .i64 (m : Nat))).drewN k) := fun j k => HCV.out _ (pw_below_drewN (show Below W0.heap.size W0 ((w.setCell ⟨g, 1, none⟩ (.int .i64 (m : Nat))).drewN j) from pw_below_drewN HR.out.bel _) _)
  have hmb : m ≤ 9223372036854775807 := by omega
  have hd : decide ((n : Int) < 0) = false := decide_eq_false (by omega)
  have hd2 : decide ((full.length : Int) - (t : Int) < (n : Int)) = false := decide_eq_false (by omega)
  have hln2 : ¬ (full.length : Int) - (t : Int) < (n : Int) := by omega
  have hw1 := wsub full.length t ht hm
  have hw2 := wadd t n m hmm hmb
  have hw3 := wback t n m hmm hmb
  have hw4 := wadd64 t n m hmm hmb
  clear q1 q2 q3 hC hC2 hA2 hlt HCV hcast hmm hl
  go_enter Try.func13, Try.ntmps13
  go_wp2_with fail
  go_quiet (fail)
  go_wp2_with fail
  go_quiet (fail)
  go_wp2_with fail
  (try go_ret)
  exact ⟨rfl, HR.out.below (pw_below_drewN (show Below _ _ ((w.setCell ⟨g, 1, none⟩ (.int .i64 (m : Nat))).drewN _) from pw_below_drewN (Below.refl _ _) _) _), HG.out.trans (gr_below (pw_below_drewN (show Below _ _ ((w.setCell ⟨g, 1, none⟩ (.int .i64 (m : Nat))).drewN _) from pw_below_drewN (Below.refl _ _) _) _))⟩
end Go.Proofs.Ytedmhopginmjaaa.PAll
end
section
namespace Go.Proofs.Ytedmhopginmjaaa.PAll
open Go.RowKit Go.Proofs.YtedmhopginmjaaaW.PrintWords Go.Proofs.YtedmhopginmjaaaW.PrintLast Go.Proofs.YtedmhopginmjaaaW.PrintMore
open Go.Proofs.Ytedmhopginmjaaa.MapInt
set_option linter.unusedVariables false
set_option linter.unusedSimpArgs false
theorem btake_calls {W0 w : World} {g : Nat} {full l : List Int} {bad : Bool} (n : Int) {s : ByteArray} {l2 : List Int} {b2 : Bool} (h : BS W0 w g full l bad) (hv : takeF l bad n = (s, l2, b2)) :
    Calls Try.prog 13 #[.pointer (some ⟨g, 0, none⟩), .int .i64 n] w fun e w' => e = .returned (.string s) ∧ BS W0 w' g full l2 b2 ∧ w.grownBy w' (some g) := by
  unfold takeF at hv
  by_cases h1 : n < 0 ∨ (l.length : Int) < n
  · rw [if_pos h1] at hv
    simp only [Prod.mk.injEq] at hv
    obtain ⟨rfl, rfl, rfl⟩ := hv
    exact btake_short W0 w g full l bad n h h1
  · rw [if_neg h1] at hv
    simp only [Prod.mk.injEq] at hv
    obtain ⟨rfl, rfl, rfl⟩ := hv
    obtain ⟨m, rfl⟩ : ∃ m : Nat, n = m := ⟨n.toNat, by omega⟩
    rw [Int.toNat_natCast]
    exact btake_ok W0 w g full l bad m h (by omega)
theorem bt_str (l : List Int) (i : Nat) (h : i < l.length) (h8 : ∀ x ∈ l, 0 ≤ x ∧ x < 256) : ((strOfNums l).data.toList.getD i 0).toNat = (rd l (i : Int)).toNat ∧ 0 ≤ rd l (i : Int) ∧ rd l (i : Int) < 256 := by
  have hm : rd l (i : Int) ∈ l := by unfold rd; simp [List.getD_eq_getElem?_getD, h]
  have hb := h8 _ hm
  refine ⟨?_, hb⟩
  rw [strOfNums_data]
  have : (List.map (fun n : Int => UInt8.ofNat n.toNat) l).getD i 0 = UInt8.ofNat (rd l (i : Int)).toNat := by
    unfold rd; simp [List.getD_eq_getElem?_getD, h]
  rw [this]
  simp; omega
set_option maxHeartbeats 8000000 in
set_option maxRecDepth 100000 in
theorem bnum_calls {W0 w : World} {g : Nat} {full l : List Int} {bad : Bool} (n : Int) {v : Int} {l2 : List Int} {b2 : Bool} (h : BS W0 w g full l bad) (hv : numF l bad n = (v, l2, b2)) :
    Calls Try.prog 11 #[.pointer (some ⟨g, 0, none⟩), .int .i64 n] w fun e w' => e = .returned (.int .u64 v) ∧ BS W0 w' g full l2 b2 ∧ w.grownBy w' (some g) := by
  unfold numF at hv
  by_cases h1 : n < 1 ∨ 8 < n
  · rw [if_pos h1] at hv
    simp only [Prod.mk.injEq] at hv
    obtain ⟨rfl, rfl, rfl⟩ := hv
    have H := Aside0.mk h
    clear h
    by_cases h2 : n < 1
    · clear h1
      go_enter Try.func11, Try.ntmps11
      go_wp2_with fail
      (try go_ret)
      exact ⟨rfl, H.out, World.grownBy.refl _ _⟩
    · have h3 : 8 < n := by omega
      clear h1
      go_enter Try.func11, Try.ntmps11
      go_wp2_with fail
      (try go_ret)
      exact ⟨rfl, H.out, World.grownBy.refl _ _⟩
  rw [if_neg h1] at hv
  have h1a : ¬ n < 1 := by omega
  have h1b : ¬ 8 < n := by omega
  have h8 : ∀ x ∈ l, 0 ≤ x ∧ x < 256 := by
    obtain ⟨A, c, t, _, _, _, _, hl⟩ := h.box
    intro x hx; rw [hl] at hx; exact h.u8 x (List.mem_of_mem_drop hx)
  clear h1
  by_cases h2 : (l.length : Int) < n
  · rw [if_pos h2] at hv
    simp only [Prod.mk.injEq] at hv
    obtain ⟨rfl, rfl, rfl⟩ := hv
    have ht : takeF l bad n = (⟨#[]⟩, [], true) := by unfold takeF; rw [if_pos (.inr h2)]
    have HT := Aside0.mk ht
    have H := Aside0.mk h
    clear h ht
    go_enter Try.func11, Try.ntmps11
    go_wp2_with (first | (go_at_call 13; (with_reducible refine (btake_calls n H.out HT.out).mono ?_); rintro e w2 ⟨rfl, hb, hg⟩; have HB := Aside0.mk hb; have HG := Aside0.mk hg; clear hb hg))
    go_loopw [6, 7] (fun v6 v7 wr => v7 = .int .i64 0 ∧ v6 = .int .u64 0 ∧ wr = w2) (fun _ _ _ => 0)
    case atStart => exact ⟨rfl, rfl, rfl⟩
    case round =>
      obtain ⟨rfl, rfl, rfl⟩ := hrel
      go_wp2_with fail
      (try go_ret)
      exact ⟨rfl, HB.out, HG.out⟩
  · rw [if_neg h2] at hv
    simp only [Prod.mk.injEq] at hv
    obtain ⟨rfl, rfl, rfl⟩ := hv
    obtain ⟨m, rfl⟩ : ∃ m : Nat, n = m := ⟨n.toNat, by omega⟩
    rw [Int.toNat_natCast]
    have ht : takeF l bad (m : Int) = (strOfNums (l.take m), l.drop m, bad) := by unfold takeF; rw [if_neg (by omega), Int.toNat_natCast]
    have HT := Aside0.mk ht
    have H := Aside0.mk h
    have H8 := Aside0.mk h8
    have hsz : (strOfNums (l.take m)).size = m := by rw [strOfNums_size, List.length_take]; omega
    clear h ht h8
    have HSZ := Aside0.mk hsz
    obtain ⟨s, hs⟩ : ∃ s, s = strOfNums (l.take m) := ⟨_, rfl⟩
    rw [← hs] at HT hsz
    have HSS := Aside0.mk hs
    clear hs
    have hsz' : (s.size : Int) = (m : Int) := by omega
    go_enter Try.func11, Try.ntmps11
    go_wp2_with (first | (go_at_call 13; (with_reducible refine (btake_calls (m : Int) H.out HT.out).mono ?_); rintro e w2 ⟨rfl, hb, hg⟩; have HB := Aside0.mk hb; have HG := Aside0.mk hg; clear hb hg))
    go_loopw [6, 7] (fun v6 v7 wr => ∃ i : Nat, i ≤ m ∧ v7 = .int .i64 i ∧ v6 = .int .u64 (numV (l.take i)) ∧ wr = w2) (fun _ v7 _ => m - (intOf v7).toNat)
    case atStart => exact ⟨0, Nat.zero_le _, rfl, rfl, rfl⟩
    case round =>
      obtain ⟨i, hi, rfl, rfl, rfl⟩ := hrel
      by_cases hlt : i < m
      · have hlt' : (i : Int) < (m : Int) := by omega
        have hTK : l.take (i + 1) = l.take i ++ [rd l (i : Int)] := by
          rw [List.take_succ_eq_append_getElem (by omega)]; unfold rd; simp [List.getD_eq_getElem?_getD, show i < l.length by omega]
        have hNB := numV_bound _ (l.take i) (Nat.le_refl _) (fun x hx => H8.out x (List.mem_of_mem_take hx))
        have HNS : Aside0 (numV (l.take (i + 1)) = numV (l.take i) * 256 + rd l (i : Int)) := ⟨by rw [hTK, numV_snoc]⟩
        rw [List.length_take, Nat.min_eq_left (by omega)] at hNB
        have hpw : (256 : Int) ^ i ≤ 256 ^ 7 := by
          exact_mod_cast Nat.pow_le_pow_right (by decide) (show i ≤ 7 by omega)
        obtain ⟨hb1, hb2, hb3⟩ := bt_str (l.take m) i (by rw [List.length_take]; omega) (fun x hx => H8.out x (List.mem_of_mem_take hx))
        have hrt : rd (l.take m) (i : Int) = rd l (i : Int) := by unfold rd; simp [List.getD_eq_getElem?_getD, hlt]
        rw [hrt, ← HSS.out] at hb1
        rw [hrt] at hb2 hb3
        generalize numV (l.take i) = X at *
        generalize rd l (i : Int) = y at *
        have hX : 0 ≤ X ∧ X < 72057594037927936 := by
          have : (256 : Int) ^ 7 = 72057594037927936 := by decide
          omega
        have HQ : Aside0 (∀ h : i < s.size, IntKind.u64.wrap (X * 256 + IntKind.u64.wrap (((s[i]'h).toNat : Nat) : Int)) = X * 256 + y) := ⟨fun h => by
          have h9 : (s[i]'h).toNat = y.toNat := by
            rw [← hb1]
            have h3 : i < s.data.toList.length := by simpa using h
            rw [List.getD_eq_getElem?_getD, List.getElem?_eq_getElem h3]
            rfl
          rw [h9, IntKind.wrap_u64, IntKind.wrap_u64]
          omega⟩
        clear hNB hpw hTK hrt hb1
        go_wp2_with fail
        go_roundw
        case rel => exact ⟨i + 1, by omega, by go_num, by rw [HNS.out, HQ.out], by first | rfl | trivial⟩
        case measure => simp [intOf]; omega
      · have hlt' : ¬ (i : Int) < (m : Int) := by omega
        obtain rfl : m = i := by omega
        go_wp2_with fail
        (try go_ret)
        exact ⟨rfl, HB.out, HG.out⟩
end Go.Proofs.Ytedmhopginmjaaa.PAll
end
