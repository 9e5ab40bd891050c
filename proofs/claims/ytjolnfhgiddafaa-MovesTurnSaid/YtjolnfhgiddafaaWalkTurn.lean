/-
  The walk of the law MovesTurn.
-/
import Derived.Test.YtjolnfhgiddafaaTurnPure
import Derived.Deep.RegionWith
import Derived.IntWalk
namespace Go.Proofs.Ytjolnfhgiddafaa.PAll
open Go.RowKit Go.Proofs.YtjolnfhgiddafaaW.PrintWords Go.Proofs.YtjolnfhgiddafaaW.PrintLast Go.Proofs.YtjolnfhgiddafaaW.PrintMore
open Go.Proofs.Ytjolnfhgiddafaa.MapInt Go.Proofs.Ytjolnfhgiddafaa.Moves
set_option linter.unusedVariables false
set_option linter.unusedSimpArgs false
set_option maxHeartbeats 16000000 in
set_option maxRecDepth 100000 in
theorem turn_x (n f : Int) (W : World) (hn : inR n) (hf : inR f) :
    Calls Try.prog 5 #[.int .i64 n, .int .i64 f] W fun e w' => e = .returned (.bool true) ∧ Below W.heap.size W w' := by
  have HB := Aside0.mk (Below.refl W.heap.size W)
  have HHE := Aside0.mk holds_eval
  obtain ⟨q, hq⟩ : ∃ q, q = n.tmod 100 := ⟨_, rfl⟩
  have hq1 : -100 < q ∧ q < 100 := by
    subst hq
    have h1 := Int.tmod_lt_of_pos n (show (0 : Int) < 100 by decide)
    have h2 := Int.lt_tmod_of_pos n (show (0 : Int) < 100 by decide)
    omega
  obtain ⟨r, hr⟩ : ∃ r, r = (q + 100).tmod 100 := ⟨_, rfl⟩
  have hr1 : 0 ≤ r ∧ r < 100 := by
    subst hr
    exact ⟨Int.tmod_nonneg _ (by omega), Int.tmod_lt_of_pos _ (by decide)⟩
  obtain ⟨N, hN⟩ : ∃ N : Nat, (N : Int) = r + 2 := ⟨(r + 2).toNat, by omega⟩
  obtain ⟨F, hF⟩ : ∃ F, F = f.tmod 1073741824 := ⟨_, rfl⟩
  have hF1 : -1073741824 < F ∧ F < 1073741824 := by
    subst hF
    have h1 := Int.tmod_lt_of_pos f (show (0 : Int) < 1073741824 by decide)
    have h2 := Int.lt_tmod_of_pos f (show (0 : Int) < 1073741824 by decide)
    omega
  have e1 : n.tmod 100 = q := hq.symm
  have e2 : IntKind.i64.wrap (q + 100) = q + 100 := IntWalk.i64_in _ (by omega)
  have e3 : (q + 100).tmod 100 = r := hr.symm
  have e4 : IntKind.i64.wrap (r + 2) = (N : Int) := by rw [hN]; exact IntWalk.i64_in _ (by omega)
  have e5 : f.tmod 1073741824 = F := hF.symm
  have hN2 : 2 ≤ N := by omega
  have hN3 : N ≤ 101 := by omega
  clear hq hr hN hF hq1 hr1
  go_enter Try.func5, Try.ntmps5
  go_wp2_with (first | (go_at_call 8; (with_reducible refine (regletlaw18_holds.calls true _ HHE.out).mono ?_); rintro e w1 ⟨rfl, hb1⟩; have n_ := Aside0.mk (below_step HB.out hb1); clear HB hb1; have HB := n_; clear n_))
  clear e1 e2 e3 e4 e5
  have hN0 : ¬ N = 0 := by omega
  have hNi : (2 : Int) ≤ (N : Int) ∧ (N : Int) ≤ 101 := by omega
  have HNT : Aside0 (¬ ((N : Int) = 0)) := ⟨by omega⟩
  have HS : Aside0 (LS w1 w1 (.slice none 0 0) (turnL F N 0)) := ⟨⟨Below.refl _ _, World.ownsRow_nil _ _ _ _⟩⟩
  go_loopw [5, 23] (fun v5 v23 wr => ∃ i : Nat, i ≤ N ∧ v23 = .int .i64 i ∧ Aside0 (LS w1 wr v5 (turnL F N i))) (fun _ v23 _ => N - (intOf v23).toNat)
  case atStart => exact ⟨0, Nat.zero_le _, rfl, HS⟩
  case round =>
    clear HS
    obtain ⟨i, hi, rfl, HS⟩ := hrel
    by_cases hlt : i < N
    · have hlt' : (i : Int) < (N : Int) := by omega
      obtain ⟨k, hk⟩ : ∃ k, k = (i + 1) % N := ⟨_, rfl⟩
      have hkN : k < N := by rw [hk]; exact Nat.mod_lt _ (by omega)
      have HM : Aside0 (turnM F N i = ⟨F + (i : Int), F + (k : Int)⟩) := ⟨by unfold turnM; rw [← hk]⟩
      have a3 : ((i : Int) + 1).tmod (N : Int) = (k : Int) := by
        rw [Int.tmod_eq_emod_of_nonneg (by omega), hk]; simp
      have a1 : IntKind.i64.wrap (F + (i : Int)) = F + (i : Int) := IntWalk.i64_in _ (by omega)
      have a4 : IntKind.i64.wrap (F + (k : Int)) = F + (k : Int) := IntWalk.i64_in _ (by omega)
      clear hk
      have HL := Aside0.mk (turnL_len F N i)
      go_wp2_with (first | (at_builtin; refine app_new rfl (.tmp 26) (.tmp 37) 22 35 (.agg #[.int .i64 0, .int .i64 0]) 2 16 rfl Try.underlying22 info35 rfl (by decide) rfl HS.out.row _ 1 rfl rfl (fun u hu => by simp at hu; rcases hu with rfl | rfl <;> rfl) (by rw [HL.out]; omega) (by rw [HL.out]; omega) HS.out.bel.size ?_; intro v2 w3 ho hg; have n_ := Aside0.mk (HS.out.made (x := ⟨F + (i : Int), F + (k : Int)⟩) ho rfl rfl hg); clear HS ho hg; have HS := n_; clear n_))
      go_roundw
      case rel => exact ⟨i + 1, by omega, by go_num, ⟨by rw [turnL_succ, HM.out]; exact HS.out⟩⟩
      case measure => simp [intOf]; omega
    · have hlt' : ¬ (i : Int) < (N : Int) := by omega
      obtain rfl : N = i := by omega
      have a5 : IntKind.i64.wrap (F - 1) = F - 1 := IntWalk.i64_in _ (by omega)
      have hnq : (N : Int).tdiv 2 = ((N / 2 : Nat) : Int) := by
        rw [Int.tdiv_eq_ediv_of_nonneg (by omega)]; omega
      have a6 : IntKind.i64.wrap ((N : Int) + 1) = (N : Int) + 1 := IntWalk.i64_in _ (by omega)
      obtain ⟨h, hh⟩ : ∃ h, h = N / 2 := ⟨_, rfl⟩
      rw [← hh] at hnq
      have a7 : IntKind.i64.wrap ((N : Int) + (h : Int)) = (N : Int) + (h : Int) := IntWalk.i64_in _ (by omega)
      have a9 : wrap64 (h : Int) = (h : Int) := w_small _ (by omega) (by omega)
      have a10 : wrap64 ((N : Int) + (h : Int)) = (N : Int) + (h : Int) := w_small _ (by omega) (by omega)
      have HN2 := Aside0.mk hN2
      obtain ⟨outs, houts⟩ : ∃ o, o = (orderF (F - 1) ((turnL F N N).map toE)).map ofE := ⟨_, rfl⟩
      obtain ⟨G1, G2, G3⟩ := turn_good F N hN2 outs houts
      rw [← hh] at G2
      have HO := Aside0.mk houts
      have HG1 := Aside0.mk G1
      have b1 : (N : Int) + 1 ≤ (outs.length : Int) := by omega
      have b2 : (outs.length : Int) ≤ (N : Int) + (h : Int) := by omega
      have b1' : ¬ (outs.length : Int) < (N : Int) + 1 := by omega
      have b2' : ¬ (N : Int) + (h : Int) < (outs.length : Int) := by omega
      have hol : outs.length ≤ 300 := by omega
      have HI : Aside0 (∀ x ∈ turnL F N N, inR x.f0 ∧ inR x.f1) := ⟨fun x hx => by
        obtain ⟨k, hk, rfl⟩ := turnL_mem hx
        have hm : (k + 1) % N < N := Nat.mod_lt _ (by omega)
        have c1 : (turnM F N k).f0 = F + (k : Int) := rfl
        have c2 : (turnM F N k).f1 = F + (((k + 1) % N : Nat) : Int) := rfl
        rw [c1, c2]
        generalize (k + 1) % N = z at *
        unfold inR; omega⟩
      have HBS : Aside0 (inR (F - 1)) := ⟨by unfold inR; omega⟩
      obtain ⟨A5, c5, e5⟩ := MapInt.own_slice' HS.out.row
      subst e5
      rw [turnL_len] at *
      have HL := Aside0.mk (turnL_len F N N)
      clear houts G1 G2 G3 hh hN0
      go_wp2_with (first | (go_at_call 10; (with_reducible refine (order_taken A5 c5 N (turnL F N N) (F - 1) _ outs HL.out.symm HS.out.C.2.2 HS.out.C.2.1 (by rw [HL.out]; omega) HI.out HBS.out (turnL_ok F N HN2.out) HO.out).mono ?_); rintro e w5 ⟨A9, c9, rfl, h9, _, hb9⟩; have H9 := Aside0.mk h9; have n_ := Aside0.mk (below_step HB.out (below_step HS.out.bel hb9)); clear HB HS h9 hb9; have HB := n_; clear n_))
      have HS : Aside0 (PL w5 (w5.alloc (.cells #[.slice none 0 0, .slice none 0 0] 33)) w5.heap.size (.slice none 0 0) (.slice none 0 0) [] []) := ⟨PL.start w5⟩
      clear HHE
      obtain ⟨b, hbb⟩ : ∃ b, b = w5.heap.size := ⟨_, rfl⟩
      rw [← hbb] at HS ⊢
      have HBB := Aside0.mk hbb
      clear hbb
      go_loopw [69] (fun v69 wr => ∃ (j : Nat) (vA vH : Value) (ats hs : List Int), j ≤ outs.length ∧ v69 = .int .i64 j ∧ Aside0 (PL w5 wr b vA vH ats hs) ∧ Aside0 ((∀ y, tellP ats hs y = runTo outs j y) ∧ ats.length ≤ j)) (fun v69 _ => outs.length - (intOf v69).toNat)
      case atStart => exact ⟨0, _, _, [], [], Nat.zero_le _, rfl, HS, ⟨fun y => by rw [runTo_zero]; rfl, Nat.le_refl _⟩⟩
      case round =>
        clear HS
        obtain ⟨j, vA, vH, ats, hs, hj, rfl, HS, HT⟩ := hrel
        by_cases hlt9 : j < outs.length
        · have hlt9' : (j : Int) < (outs.length : Int) := by omega
          obtain ⟨ad9, rfl, hx0, hx1⟩ := at_T35 (Kd.C_below H9.out HS.out.bel) (j : Int) (by omega) hlt9'
          rw [Int.toNat_natCast] at hx0 hx1
          have HN_ := Aside0.mk (runTo_succ outs j hlt9)
          have HRT := HT.out.1 (rd_T35 outs j).f1
          have HAL := Aside0.mk HT.out.2
          have HTT := Aside0.mk HT.out.1
          clear HT
          generalize (rd_T35 outs j).f0 = t at *
          generalize (rd_T35 outs j).f1 = a at *
          have HRA := Aside0.mk HRT
          clear HRT
          go_wp2_with fail
          go_region_with (first | (go_at_call 13; (with_reducible refine (get_calls w5 _ b vA vH ats hs a (HS.out.step _) (by have := HAL.out; omega)).mono ?_); rintro e w2 ⟨rfl, rfl⟩) | (go_at_call 12; (with_reducible refine (set_calls w5 _ b vA vH ats hs t (tellP ats hs a) (HS.out.step _) (by have := HAL.out; omega)).mono ?_); rintro e w2 ⟨rfl, vA', vH', ats', hs', hp, ht, hl⟩))
          all_goals
            have HP := Aside0.mk hp
            have HY := Aside0.mk ht
            have HL := Aside0.mk hl
            clear hp ht hl HS
            go_wp2_with fail
            go_roundw
            case rel => exact ⟨j + 1, _, _, _, _, by omega, by go_num, HP, ⟨fun y => by rw [HY.out, HN_.out, HRA.out, HTT.out], by have h1 := HL.out; have h2 := HAL.out; omega⟩⟩
            case measure => simp [intOf]; omega
        · have hlt9' : ¬ (j : Int) < (outs.length : Int) := by omega
          obtain rfl : j = outs.length := by omega
          have HG1' : Aside0 (∀ i, i < N → tellP ats hs (turnM F N i).f0 = (turnM F N i).f1) := ⟨fun i hi => by rw [HT.out.1]; exact HG1.out i hi⟩
          have HAL := Aside0.mk HT.out.2
          clear HT HG1
          go_wp2_with fail
          go_loopw [83] (fun v83 wr => ∃ i : Nat, i ≤ N ∧ v83 = .int .i64 i ∧ Aside0 (PL w5 wr b vA vH ats hs)) (fun v83 _ => N - (intOf v83).toNat)
          case atStart => exact ⟨0, Nat.zero_le _, rfl, HS⟩
          case round =>
            clear HS
            obtain ⟨i, hi, rfl, HS⟩ := hrel
            by_cases hlt : i < N
            · have hlt' : (i : Int) < (N : Int) := by omega
              obtain ⟨k, hk⟩ : ∃ k, k = (i + 1) % N := ⟨_, rfl⟩
              have hkN : k < N := by rw [hk]; exact Nat.mod_lt _ (by omega)
              have HGI : Aside0 (tellP ats hs (F + (i : Int)) = F + (k : Int)) := ⟨by rw [hk]; exact HG1'.out i hlt⟩
              have a3 : ((i : Int) + 1).tmod (N : Int) = (k : Int) := by
                rw [Int.tmod_eq_emod_of_nonneg (by omega), hk]; simp
              have a1 : IntKind.i64.wrap (F + (i : Int)) = F + (i : Int) := IntWalk.i64_in _ (by omega)
              have a4 : IntKind.i64.wrap (F + (k : Int)) = F + (k : Int) := IntWalk.i64_in _ (by omega)
              have a8 : IntKind.i64.wrap ((i : Int) + 1) = (i : Int) + 1 := IntWalk.i64_in _ (by omega)
              have hN0 : ¬ N = 0 := by omega
              clear hk
              go_wp2_with fail
              go_quiet (((go_at_call 13; with_reducible exact Calls.quiet_of_same (get_quiet _ _ b _ _ _ _ _ _ (HS.out.drewN _) (by have := HAL.out; omega) HGI.out))))
              go_wp2_with fail
              go_roundw
              case rel => exact ⟨i + 1, by omega, by go_num, ⟨HS.out.drewN _⟩⟩
              case measure => simp [intOf]; omega
            · have hlt' : ¬ (i : Int) < (N : Int) := by omega
              obtain rfl : N = i := by omega
              go_wp2_with fail
              (try go_ret)
              exact ⟨rfl, below_step HB.out HS.out.bel⟩
theorem movesTurn_walk (n f : Int) (w : World) (hn : (Lit.int .i64 n).wf = true) (hf : (Lit.int .i64 f).wf = true) :
    Calls Try.prog 5 #[.int .i64 n, .int .i64 f] w fun e w' => e = .returned (.bool true) ∧ Below w.heap.size w w' := turn_x n f w (wf_inR hn) (wf_inR hf)
end Go.Proofs.Ytjolnfhgiddafaa.PAll
