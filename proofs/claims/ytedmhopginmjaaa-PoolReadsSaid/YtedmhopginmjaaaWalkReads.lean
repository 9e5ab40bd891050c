-- only 03
/-
  The walk of the law PoolReads.
-/
import Derived.Test.YtedmhopginmjaaaWalkNamed
import Derived.Test.YtedmhopginmjaaaBytesNum
namespace Go.Proofs.Ytedmhopginmjaaa.PAll
open Go.RowKit Go.Proofs.YtedmhopginmjaaaW.PrintWords Go.Proofs.YtedmhopginmjaaaW.PrintLast Go.Proofs.YtedmhopginmjaaaW.PrintMore
open Go.Proofs.Ytedmhopginmjaaa.MapInt
set_option linter.unusedVariables false
set_option linter.unusedSimpArgs false
theorem drop_len {l b : List Int} {t : Nat} (h : l = b.drop t) (ht : t ≤ b.length) : (l.length : Int) = (b.length : Int) - (t : Int) := by
  have h9 : l.length = b.length - t := by rw [h]; exact List.length_drop
  omega
structure TS (W0 w : World) (g gB : Nat) (full l : List Int) (bad : Bool) : Prop where
  rs : RS W0 w g l bad
  bs : BS W0 w gB full l bad
  ne : g ≠ gB
section
variable {W0 w w2 w3 : World} {g gB : Nat} {full l l2 : List Int} {bad b2 : Bool}
theorem TS.below (h : TS W0 w g gB full l bad) (hb : Below w.heap.size w w2) : TS W0 w2 g gB full l bad := ⟨h.rs.below hb, h.bs.below hb, h.ne⟩
theorem TS.bkept (h : TS W0 w g gB full l bad) (hg : w.grownBy w2 (some g)) : BS W0 w2 gB full l bad := h.bs.kept hg (fun e => h.ne (by injection e with e; exact e.symm)) (fun k hk => by cases hk; exact h.rs.lg)
theorem TS.two (h : TS W0 w g gB full l bad) (hr : RS W0 w2 g l2 b2) (hb : BS W0 w3 gB full l2 b2) (hg : w2.grownBy w3 (some gB)) : TS W0 w3 g gB full l2 b2 :=
  ⟨hr.kept hg (fun e => h.ne (by injection e)) (fun k hk => by cases hk; exact h.bs.lg), hb, h.ne⟩
end
theorem from_both {w : World} {A : Option Addr} {c : Nat} {l : List Int} (hr : Kd.C (Kd.int .u8) w A l.length l) (hc : l.length ≤ c) {w2 : World} {g : Nat} (h : RS w w2 g l false) : TS w (w2.alloc (.cells #[.slice A l.length c, .int .i64 0, .bool false] 29)) g w2.heap.size l l false := by
  have hlt : g < w2.heap.size := by obtain ⟨A', c', hB, _, _⟩ := h.box; exact hB.lt
  refine ⟨h.below ((Below.refl _ _).alloc (Nat.le_refl _) _), ⟨(h.bel.alloc h.bel.size _), h.bel.size, h.u8, A, c, 0, Blk.made _ _ _, hc, hr, Nat.zero_le _, rfl⟩, by omega⟩
set_option maxHeartbeats 16000000 in
set_option maxRecDepth 100000 in
theorem reads_x (A0 : Option Addr) (c0 : Nat) (b : List Int) (A1 : Option Addr) (c1 : Nat) (asks : List Int) (W : World) (hr0 : Kd.C (Kd.int .u8) W A0 b.length b) (hc0 : b.length ≤ c0) (h8 : ∀ x ∈ b, 0 ≤ x ∧ x < 256) (hr1 : Kd.C (Kd.int .i64) W A1 asks.length asks) :
    Calls Try.prog 3 #[.slice A0 b.length c0, .slice A1 asks.length c1] W fun e w' => e = .returned (.bool true) ∧ Below W.heap.size W w' := by
  have HB := Aside0.mk (Below.refl W.heap.size W)
  have HR0 := Aside0.mk hr0
  have HR1 := Aside0.mk hr1
  have HC0 := Aside0.mk hc0
  have H8 := Aside0.mk h8
  have hm1 := Kd.C_max hr1
  have hm0 := Kd.C_max hr0
  clear hr0 hr1 hc0 h8
  go_enter Try.func3, Try.ntmps3
  go_wp2_with (first | (go_at_call 8; (with_reducible refine (holds_calls _).mono ?_); rintro e w1 ⟨rfl, hb1⟩; have n_ := Aside0.mk (below_step HB.out hb1); clear HB hb1; have HB := n_; clear n_) | (go_at_call 9; (with_reducible refine (from_calls (Kd.C_below HR0.out HB.out) HC0.out H8.out).mono ?_); rintro e w2 ⟨g, rfl, hr, _, _⟩; have HTS := Aside0.mk (from_both (Kd.C_below HR0.out HB.out) HC0.out hr); clear hr))
  generalize w2.heap.size = gB at *
  go_loopw [20] (fun v20 wr => ∃ (i : Nat) (l : List Int) (bad : Bool), i ≤ asks.length ∧ i ≤ 200 ∧ v20 = .int .i64 i ∧ Aside0 (TS w1 wr g gB b l bad)) (fun v20 _ => asks.length - (intOf v20).toNat)
  case atStart => exact ⟨0, b, false, Nat.zero_le _, Nat.zero_le _, rfl, HTS⟩
  case round =>
    clear HTS
    obtain ⟨i, l, bad, hi, hi2, rfl, HTS⟩ := hrel
    by_cases hlt : i < asks.length
    · have hlt' : (i : Int) < (asks.length : Int) := by omega
      obtain ⟨ad, rfl, hcx⟩ := Kd.at_int (Kd.C_below HR1.out (below_step HB.out HTS.out.rs.bel)) (i : Int) (by omega) hlt'
      rw [Int.toNat_natCast] at hcx
      generalize rd asks (i : Int) = n at *
      by_cases h200 : i = 200
      · subst h200
        have hcx' : wr.cell? ⟨ad.block, ad.off + 200, none⟩ = some (.int .i64 n) := hcx
        clear hi2 hcx
        go_wp2_with fail
        (try go_ret)
        exact ⟨rfl, below_step HB.out HTS.out.rs.bel⟩
      · have h200' : ((i : Int) == 200) = false := by simp; omega
        by_cases hpar : i % 2 = 0
        · have hmod : (i : Int).tmod 2 = 0 := by rw [Int.tmod_eq_emod_of_nonneg (by omega)]; omega
          clear hpar
          rcases hv : numF l bad n with ⟨v, l2, b2⟩
          have HV := Aside0.mk hv
          clear hv
          go_wp2_with (first | (go_at_call 10; (with_reducible refine (num_at n HTS.out.rs HV.out).mono ?_); rintro e w4 ⟨rfl, hr, hg⟩; have HR4 := Aside0.mk hr; have HB4 := Aside0.mk (HTS.out.bkept hg); clear hr hg) | (go_at_call 11; (with_reducible refine (bnum_calls n HB4.out HV.out).mono ?_); rintro e w5 ⟨rfl, hb5, hg5⟩; have n_ := Aside0.mk (HTS.out.two HR4.out hb5 hg5); clear HTS HR4 HB4 hb5 hg5; have HTS := n_; clear n_) | (go_at_call 14; (with_reducible refine (left_calls w1 _ g _ _ HTS.out.rs).mono ?_); rintro e w6 ⟨rfl, hbl⟩; have n_ := Aside0.mk (HTS.out.below hbl); clear HTS; have HTS := n_; clear n_; clear hbl; obtain ⟨A3, c3, t, hB3, _, _, ht3, hl3⟩ := HTS.out.bs.box; have g0 : w6.cell? ⟨gB, 0, none⟩ = some (.slice A3 b.length c3) := hB3.cell rfl; have g1 : w6.cell? ⟨gB, 1, none⟩ = some (.int .i64 (t : Nat)) := hB3.cell rfl; have g2 : w6.cell? ⟨gB, 2, none⟩ = some (.bool b2) := hB3.cell rfl; have hll : (l2.length : Int) = (b.length : Int) - (t : Int) := drop_len hl3 ht3; have hw := wsub b.length t ht3 hm0; clear hB3 ht3 hl3))
          cases b2 with
          | false =>
            go_quiet (fail)
            go_wp2_with fail
            go_roundw
            case rel => exact ⟨i + 1, l2, false, by omega, by omega, by go_num, ⟨HTS.out.below (pw_below_drewN (Below.refl _ _) _)⟩⟩
            case measure => simp [intOf]; omega
          | true =>
            go_quiet (fail)
            go_wp2_with fail
            go_roundw
            case rel => exact ⟨i + 1, l2, true, by omega, by omega, by go_num, ⟨HTS.out.below (pw_below_drewN (Below.refl _ _) _)⟩⟩
            case measure => simp [intOf]; omega
        · have hmod : (i : Int).tmod 2 = 1 := by rw [Int.tmod_eq_emod_of_nonneg (by omega)]; omega
          clear hpar
          rcases hv : takeF l bad n with ⟨v, l2, b2⟩
          have HV := Aside0.mk hv
          clear hv
          go_wp2_with (first | (go_at_call 12; (with_reducible refine (take_at n HTS.out.rs HV.out).mono ?_); rintro e w4 ⟨rfl, hr, hg⟩; have HR4 := Aside0.mk hr; have HB4 := Aside0.mk (HTS.out.bkept hg); clear hr hg) | (go_at_call 13; (with_reducible refine (btake_calls n HB4.out HV.out).mono ?_); rintro e w5 ⟨rfl, hb5, hg5⟩; have n_ := Aside0.mk (HTS.out.two HR4.out hb5 hg5); clear HTS HR4 HB4 hb5 hg5; have HTS := n_; clear n_) | (go_at_call 14; (with_reducible refine (left_calls w1 _ g _ _ HTS.out.rs).mono ?_); rintro e w6 ⟨rfl, hbl⟩; have n_ := Aside0.mk (HTS.out.below hbl); clear HTS; have HTS := n_; clear n_; clear hbl; obtain ⟨A3, c3, t, hB3, _, _, ht3, hl3⟩ := HTS.out.bs.box; have g0 : w6.cell? ⟨gB, 0, none⟩ = some (.slice A3 b.length c3) := hB3.cell rfl; have g1 : w6.cell? ⟨gB, 1, none⟩ = some (.int .i64 (t : Nat)) := hB3.cell rfl; have g2 : w6.cell? ⟨gB, 2, none⟩ = some (.bool b2) := hB3.cell rfl; have hll : (l2.length : Int) = (b.length : Int) - (t : Int) := drop_len hl3 ht3; have hw := wsub b.length t ht3 hm0; clear hB3 ht3 hl3))
          cases b2 with
          | false =>
            go_quiet (fail)
            go_wp2_with fail
            go_roundw
            case rel => exact ⟨i + 1, l2, false, by omega, by omega, by go_num, ⟨HTS.out.below (pw_below_drewN (Below.refl _ _) _)⟩⟩
            case measure => simp [intOf]; omega
          | true =>
            go_quiet (fail)
            go_wp2_with fail
            go_roundw
            case rel => exact ⟨i + 1, l2, true, by omega, by omega, by go_num, ⟨HTS.out.below (pw_below_drewN (Below.refl _ _) _)⟩⟩
            case measure => simp [intOf]; omega
    · have hlt' : ¬ (i : Int) < (asks.length : Int) := by omega
      go_wp2_with fail
      (try go_ret)
      exact ⟨rfl, below_step HB.out HTS.out.rs.bel⟩
theorem wf_u8 {x : Int} (h : (Lit.int .u8 x).wf = true) : 0 ≤ x ∧ x < 256 := by
  simp only [Lit.wf, IntKind.min, IntKind.max, IntKind.signed, IntKind.bits, Bool.and_eq_true, decide_eq_true_eq] at h
  simp at h
  omega
theorem poolReads_walk (a0 : Option Addr) (len0 cap0 : Nat) (z0 : List Int) (a1 : Option Addr) (len1 cap1 : Nat) (z1 : List Int) (w : World)
    (w0 : (a0 = none ∧ len0 = 0 ∧ cap0 = 0 ∧ z0 = []) ∨ ∃ x, a0 = some x ∧ len0 ≤ cap0 ∧ cap0 ≤ maxLen ∧ z0.length = cap0 ∧ (∀ i, i < z0.length → w.cell? (x.add i) = some (.int .u8 (z0.getD i 0))) ∧ ∀ n ∈ z0, (Lit.int .u8 n).wf = true) (_y0 : len0 * 1 ≤ 140737488351232)
    (w1 : (a1 = none ∧ len1 = 0 ∧ cap1 = 0 ∧ z1 = []) ∨ ∃ x, a1 = some x ∧ len1 ≤ cap1 ∧ cap1 ≤ maxLen ∧ z1.length = cap1 ∧ (∀ i, i < z1.length → w.cell? (x.add i) = some (.int .i64 (z1.getD i 0))) ∧ ∀ n ∈ z1, (Lit.int .i64 n).wf = true) (_y1 : len1 * 8 ≤ 140737488351232) :
    Calls Try.prog 3 #[.slice a0 len0 cap0, .slice a1 len1 cap1] w fun e w' => e = .returned (.bool true) ∧ Below w.heap.size w w' := by
  obtain ⟨l0, rfl, hr0, hm0, hw0, hc0⟩ := ReadsInt.ofRowC w0
  obtain ⟨l1, rfl, hr1, hm1, hw1, hc1⟩ := ReadsInt.ofRowC w1
  exact reads_x a0 cap0 l0 a1 cap1 l1 w (Kd.C_of_reads (d := (0 : Int)) (h1 := fun _ => rfl) hr0) hc0 (fun x hx => wf_u8 (hw0 x hx)) (Kd.C_of_reads (d := (0 : Int)) (h1 := fun _ => rfl) hr1)
end Go.Proofs.Ytedmhopginmjaaa.PAll
