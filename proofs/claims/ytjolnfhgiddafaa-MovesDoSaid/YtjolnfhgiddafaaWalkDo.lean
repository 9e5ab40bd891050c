/-
  The walk of the law MovesDo.
-/
import Derived.Test.YtjolnfhgiddafaaDoPure
import Derived.StillTailTactics
import Derived.Deep.RegionWith
namespace Go.Proofs.Ytjolnfhgiddafaa.PAll
open Go.RowKit Go.Proofs.YtjolnfhgiddafaaW.PrintWords Go.Proofs.YtjolnfhgiddafaaW.PrintLast Go.Proofs.YtjolnfhgiddafaaW.PrintMore
open Go.Proofs.Ytjolnfhgiddafaa.MapInt Go.Proofs.Ytjolnfhgiddafaa.Moves
set_option linter.unusedVariables false
set_option linter.unusedSimpArgs false
set_option maxHeartbeats 16000000 in
set_option maxRecDepth 100000 in
theorem do_x (A0 : Option Addr) (c0 : Nat) (ls : List S35) (bs : Int) (W : World) (hr0 : Kd.C k35 W A0 ls.length ls) (hc : ls.length ≤ c0) (hr : ∀ x ∈ ls, inR x.f0 ∧ inR x.f1) (hb : inR bs) (hl : ls.length ≤ 200) :
    Calls Try.prog 3 #[.slice A0 ls.length c0, .int .i64 bs] W fun e w' => e = .returned (.bool true) ∧ Below W.heap.size W w' := by
  have HB := Aside0.mk (Below.refl W.heap.size W)
  have HR := Aside0.mk hr0
  have HC := Aside0.mk hc
  have HI := Aside0.mk hr
  have HBS := Aside0.mk hb
  have HPE := Aside0.mk (parts_eval ls (by omega) 2000 (by decide))
  have HWE := Aside0.mk (wrong_eval ls bs (by omega) 2000000 (by decide))
  have hl' : (ls.length : Int) ≤ 200 := by omega
  obtain ⟨tos, htos⟩ : ∃ t, t = ls.map (·.f0) := ⟨_, rfl⟩
  obtain ⟨frs, hfrs⟩ : ∃ t, t = ls.map (·.f1) := ⟨_, rfl⟩
  rw [← htos, ← hfrs] at HPE HWE
  have HTO := Aside0.mk htos
  have HFR := Aside0.mk hfrs
  have htl : tos.length ≤ 200 := by rw [htos, List.length_map]; exact hl
  have htl' : (tos.length : Int) ≤ 200 := by omega
  have HLN : Aside0 (tos.length = ls.length ∧ frs.length = ls.length) := ⟨by rw [htos, hfrs, List.length_map, List.length_map]; exact ⟨rfl, rfl⟩⟩
  clear htos hfrs
  have HHE := Aside0.mk holds_eval
  clear hr0 hc hr hb
  have hmk := @run_makeMap Try.prog
  by_cases hok : OkL (ls.map toE) bs
  · have HOK := Aside0.mk hok
    rw [show (!decide (OkL (ls.map toE) bs)) = false by simp [hok]] at HWE
    clear hok
    obtain ⟨outs, houts⟩ : ∃ o, o = (orderF bs (ls.map toE)).map ofE := ⟨_, rfl⟩
    have HOE : Aside0 (moves_Order.f ls bs = some (outs, 0)) := ⟨by rw [houts]; exact order_ok (by omega) HI.out HBS.out HOK.out⟩
    obtain ⟨G1, G2, G3, G4, G5, G6⟩ := order_good (ls.map toE) bs HOK.out.1 HOK.out.2
    have hkeys : keys (ls.map toE) = tos := by rw [HTO.out]; unfold keys; rw [List.map_map]; rfl
    have HG1 : Aside0 (∀ i, i < tos.length → runTo outs outs.length (rd tos i) = rd frs i) := ⟨fun i hi => by
      have h1 : i < ls.length := by have := HLN.out; omega
      rw [runTo_all bs _ outs houts, HTO.out, HFR.out, rd_map0 ls i h1, rd_map1 ls i h1]
      exact G1 id (toE (rd_T35 ls i)) (List.mem_map.2 ⟨_, by unfold rd_T35; simp [List.getD_eq_getElem?_getD, h1], rfl⟩)⟩
    have HG2 : Aside0 (∀ x, x ∉ tos → x ≠ bs → runTo outs outs.length x = x) := ⟨fun x h1 h2 => by
      rw [runTo_all bs _ outs houts]
      exact G2 id x (by rw [hkeys]; exact h1) h2⟩
    have HOI : Aside0 (∀ x ∈ outs, inR x.f0) := ⟨fun x hx => by
      rw [houts] at hx
      obtain ⟨e, he, rfl⟩ := List.mem_map.1 hx
      rcases (G4 e he).2 with h | h
      · obtain ⟨a, ha⟩ := mem_keys.1 h
        obtain ⟨x, hx, hxe⟩ := List.mem_map.1 ha
        have h3 := (HI.out x hx).1
        have : x.f0 = e.1 := congrArg Prod.fst hxe
        rw [this] at h3; exact h3
      · have h3 := HBS.out; rw [← h] at h3; exact h3⟩
    have HG3 : Aside0 (outs.length ≤ (real (ls.map toE)).length + (real (ls.map toE)).length / 2) := ⟨by rw [houts, List.length_map]; exact G3⟩
    have hrl : (real (ls.map toE)).length ≤ 200 := by
      have h2 : (real (ls.map toE)).length ≤ (ls.map toE).length := List.length_filter_le _ _
      rw [List.length_map] at h2; omega
    have hol : outs.length ≤ 300 := by have := HG3.out; omega
    have hol' : (outs.length : Int) ≤ 300 := by omega
    clear G1 G2 G3 G4 G5 G6 hkeys houts hrl
    go_enter Try.func3, Try.ntmps3
    go_wp2_with (first | (go_at_call 8; (with_reducible refine (regletlaw18_holds.calls true _ HHE.out).mono ?_); rintro e w1 ⟨rfl, hb1⟩; have n_ := Aside0.mk (below_step HB.out hb1); clear HB hb1; have HB := n_; clear n_) | (go_at_call 9; (with_reducible refine (regletlaw18_parts.calls 2000 _ _ ls _ _ _ (Kd.C_below HR.out HB.out) HC.out HPE.out).mono ?_); rintro e w2 ⟨v5, v6, rfl, h5, h6, hb2⟩; obtain ⟨A5, c5, e5⟩ := Kd.R_slice h5; obtain ⟨A6, c6, e6⟩ := Kd.R_slice h6; subst e5; subst e6; have H5 := Aside0.mk (Kd.R_reads' h5).2.2; have H6 := Aside0.mk (Kd.R_reads' h6).2.2; have H5c := Aside0.mk (Kd.R_reads' h5).2.1; have H6c := Aside0.mk (Kd.R_reads' h6).2.1; have n_ := Aside0.mk (below_step HB.out hb2); clear HB hb2 h5 h6; have HB := n_; clear n_) | (go_at_call 10; (with_reducible refine (moves_Order.calls _ _ ls bs outs 0 _ (Kd.C_below HR.out HB.out) HC.out HOE.out).mono ?_); rintro e w5 ⟨v9, rfl, h9, hb9⟩; obtain ⟨A9, c9, e9⟩ := Kd.R_slice h9; subst e9; have H9 := Aside0.mk (Kd.R_reads' h9).2.2; have n_ := Aside0.mk (Kd.C_below H5.out hb9); clear H5; have H5 := n_; clear n_; have n_ := Aside0.mk (Kd.C_below H6.out hb9); clear H6; have H6 := n_; clear n_; have n_ := Aside0.mk (below_step HB.out hb9); clear HB h9 hb9; have HB := n_; clear n_) | (go_at_call 11; (with_reducible refine (regletref18_Wrong.calls 2000000 _ _ _ _ _ _ bs _ _ H5.out H5c.out H6.out H6c.out HWE.out).mono ?_); rintro e w3 ⟨rfl, hd⟩; have HD := Aside0.mk (drawn0_below hd); clear hd; have n_ := Aside0.mk (Kd.C_below H5.out HD.out); clear H5; have H5 := n_; clear n_; have n_ := Aside0.mk (Kd.C_below H6.out HD.out); clear H6; have H6 := n_; clear n_; have n_ := Aside0.mk (Kd.C_below H9.out HD.out); clear H9; have H9 := n_; clear n_; have n_ := Aside0.mk (below_step HB.out HD.out); clear HB HD; have HB := n_; clear n_))
    have HS : Aside0 (PL w3 (w3.alloc (.cells #[.slice none 0 0, .slice none 0 0] 33)) w3.heap.size (.slice none 0 0) (.slice none 0 0) [] []) := ⟨PL.start w3⟩
    clear HPE HWE HHE HOE HR HC
    obtain ⟨b, hbb⟩ : ∃ b, b = w3.heap.size := ⟨_, rfl⟩
    rw [← hbb] at HS ⊢
    have HBB := Aside0.mk hbb
    clear hbb
    go_loopw [50] (fun v50 wr => ∃ (j : Nat) (vA vH : Value) (ats hs : List Int), j ≤ outs.length ∧ v50 = .int .i64 j ∧ Aside0 (PL w3 wr b vA vH ats hs) ∧ Aside0 ((∀ y, tellP ats hs y = runTo outs j y) ∧ ats.length ≤ j)) (fun v50 _ => outs.length - (intOf v50).toNat)
    case atStart => exact ⟨0, _, _, [], [], Nat.zero_le _, rfl, HS, ⟨fun y => by rw [runTo_zero]; rfl, Nat.le_refl _⟩⟩
    case round =>
      clear HS
      obtain ⟨j, vA, vH, ats, hs, hj, rfl, HS, HT⟩ := hrel
      by_cases hlt9 : j < outs.length
      · have hlt9' : (j : Int) < (outs.length : Int) := by omega
        obtain ⟨ad9, rfl, hx0, hx1⟩ := at_T35 (Kd.C_below H9.out HS.out.bel) (j : Int) (by omega) hlt9'
        rw [Int.toNat_natCast] at hx0 hx1
        have HN := Aside0.mk (runTo_succ outs j hlt9)
        have HRT := HT.out.1 (rd_T35 outs j).f1
        have HAL := Aside0.mk HT.out.2
        have HTT := Aside0.mk HT.out.1
        clear HT
        generalize (rd_T35 outs j).f0 = t at *
        generalize (rd_T35 outs j).f1 = a at *
        have HRA := Aside0.mk HRT
        clear HRT
        go_wp2_with fail
        go_region_with (first | (go_at_call 13; (with_reducible refine (get_calls w3 _ b vA vH ats hs a (HS.out.step _) (by have := HAL.out; omega)).mono ?_); rintro e w2 ⟨rfl, rfl⟩) | (go_at_call 12; (with_reducible refine (set_calls w3 _ b vA vH ats hs t (tellP ats hs a) (HS.out.step _) (by have := HAL.out; omega)).mono ?_); rintro e w2 ⟨rfl, vA', vH', ats', hs', hp, ht, hl⟩))
        all_goals
          have HP := Aside0.mk hp
          have HY := Aside0.mk ht
          have HL := Aside0.mk hl
          clear hp ht hl HS
          go_wp2_with fail
          go_roundw
          case rel => exact ⟨j + 1, _, _, _, _, by omega, by go_num, HP, ⟨fun y => by rw [HY.out, HN.out, HRA.out, HTT.out], by have h1 := HL.out; have h2 := HAL.out; omega⟩⟩
          case measure => simp [intOf]; omega
      · have hlt9' : ¬ (j : Int) < (outs.length : Int) := by omega
        obtain rfl : j = outs.length := by omega
        have HG1' : Aside0 (∀ i, i < tos.length → tellP ats hs (rd tos i) = rd frs i) := ⟨fun i hi => by rw [HT.out.1]; exact HG1.out i hi⟩
        have HG2' : Aside0 (∀ x, x ∉ tos → x ≠ bs → tellP ats hs x = x) := ⟨fun x h1 h2 => by rw [HT.out.1]; exact HG2.out x h1 h2⟩
        have HAL := Aside0.mk HT.out.2
        clear HT HG1 HG2
        have HS2 : Aside0 (DoS w3 (wr.alloc (.map #[] 0)) b wr.heap.size vA vH ats hs 0 (fun _ => none)) := ⟨⟨HS.out.alloc _, IM.made _ _, HS.out.bel.size⟩⟩
        clear HS
        have HS := HS2
        clear HS2
        go_wp2_with fail
        generalize wr.heap.size = m at *
        go_loopw [13, 66] (fun v13 v66 wr => ∃ (i : Nat) (f : Int → Option Int), i ≤ tos.length ∧ v66 = .int .i64 i ∧ v13 = .int .i64 ((real ((ls.map toE).take i)).length : Int) ∧ Aside0 (DoS w3 wr b m vA vH ats hs i f) ∧ Aside0 (∀ y, (f y).getD 0 = if y ∈ tos.take i then 1 else 0)) (fun _ v66 _ => tos.length - (intOf v66).toNat)
        case atStart => exact ⟨0, _, Nat.zero_le _, rfl, rfl, HS, ⟨fun y => by simp⟩⟩
        case round =>
          clear HS
          obtain ⟨i, f, hi, rfl, rfl, HS, HF⟩ := hrel
          by_cases hlt : i < tos.length
          · have hlt' : (i : Int) < (tos.length : Int) := by omega
            have h6l : (i : Int) < (frs.length : Int) := by have := HLN.out; omega
            obtain ⟨ad5, rfl, hc5⟩ := Kd.at_int (Kd.C_below H5.out HS.out.pl.bel) (i : Int) (by omega) hlt'
            obtain ⟨ad6, rfl, hc6⟩ := Kd.at_int (Kd.C_below H6.out HS.out.pl.bel) (i : Int) (by omega) h6l
            clear hc6
            rw [Int.toNat_natCast] at hc5
            have h1 : i < ls.length := by have := HLN.out; omega
            have e5 : rd tos i = (rd_T35 ls i).f0 := by rw [HTO.out]; exact rd_map0 ls i h1
            have e6 : rd frs i = (rd_T35 ls i).f1 := by rw [HFR.out]; exact rd_map1 ls i h1
            have HTK := Aside0.mk (takeE ls i h1)
            have HT0 := HI.out (rd_T35 ls i) (by unfold rd_T35; simp [List.getD_eq_getElem?_getD, h1])
            have HTT : Aside0 (tos.take (i + 1) = tos.take i ++ [rd tos i]) := ⟨by
              rw [List.take_succ_eq_append_getElem hlt]; unfold rd; simp [List.getD_eq_getElem?_getD, hlt]⟩
            have HGI := Aside0.mk (HG1'.out i hlt)
            have HC5 := Aside0.mk (fun w2 hb => C_cell (Kd.C_below (w1 := w2) H5.out hb) i hlt)
            have HC6 := Aside0.mk (fun w2 hb => C_cell (Kd.C_below (w1 := w2) H6.out hb) i (by have := HLN.out; omega))
            rw [e5] at hc5 HTT HGI HC5
            rw [e6] at HGI HC6
            clear e5 e6
            generalize (rd_T35 ls i).f0 = t at *
            generalize (rd_T35 ls i).f1 = a at *
            have HX := Aside0.mk HT0.1
            clear HT0
            have hrl : (real ((ls.map toE).take i)).length ≤ 200 := by
              have h2 : (real ((ls.map toE).take i)).length ≤ ((ls.map toE).take i).length := List.length_filter_le _ _
              rw [List.length_take, List.length_map] at h2; omega
            have hrl' : ((real ((ls.map toE).take i)).length : Int) ≤ 200 := by omega
            by_cases hta : t = a
            · have HRE : Aside0 (real ((ls.map toE).take (i + 1)) = real ((ls.map toE).take i)) := ⟨by rw [HTK.out]; unfold real; rw [List.filter_append]; simp [hta]⟩
              have hta' : (t == a) = true := by simpa using hta
              clear hta
              go_wp2_with (first | (at_mapUpdate; refine MapInt.store Try.underlying3 rfl (.tmp 69) _ _ 38 rfl Try.underlying38 rfl HS.out.im (by omega) (kx := t) (vx := 1) rfl rfl HX.out (by unfold inR; omega) ?_; intro w2 hm2 hg2 hz2; have n_ := Aside0.mk (HS.out.stored hm2 hg2); clear HS hm2 hg2 hz2 hc5; have HS := n_; clear n_; have hc5 := HC5.out _ HS.out.pl.bel; have hc6 := HC6.out _ HS.out.pl.bel))
              go_quiet (((go_at_call 13; with_reducible exact Calls.quiet_of_same (get_quiet _ _ b _ _ _ _ _ a (HS.out.pl.drewN _) (by have := HAL.out; omega) HGI.out))))
              go_wp2_with fail
              go_quiet (fail)
              go_wp2_with fail
              go_roundw
              case rel => exact ⟨i + 1, _, by omega, by go_num, by rw [HRE.out], ⟨HS.out.drewN _⟩, ⟨fun y => by
                have h1 := HF.out y
                rw [HTT.out]
                unfold upd
                by_cases e : y = t
                · subst e; simp
                · rw [if_neg e, h1]; simp [e]⟩⟩
              case measure => simp [intOf]; omega
            · have hta' : (t == a) = false := by simpa using hta
              have HRE : Aside0 (real ((ls.map toE).take (i + 1)) = real ((ls.map toE).take i) ++ [(t, a)]) := ⟨by rw [HTK.out]; unfold real; rw [List.filter_append]; simp [hta]⟩
              clear hta
              go_wp2_with (first | (at_mapUpdate; refine MapInt.store Try.underlying3 rfl (.tmp 69) _ _ 38 rfl Try.underlying38 rfl HS.out.im (by omega) (kx := t) (vx := 1) rfl rfl HX.out (by unfold inR; omega) ?_; intro w2 hm2 hg2 hz2; have n_ := Aside0.mk (HS.out.stored hm2 hg2); clear HS hm2 hg2 hz2 hc5; have HS := n_; clear n_; have hc5 := HC5.out _ HS.out.pl.bel; have hc6 := HC6.out _ HS.out.pl.bel))
              go_quiet (((go_at_call 13; with_reducible exact Calls.quiet_of_same (get_quiet _ _ b _ _ _ _ _ a (HS.out.pl.drewN _) (by have := HAL.out; omega) HGI.out))))
              go_wp2_with fail
              go_quiet (fail)
              go_wp2_with fail
              go_roundw
              case rel => exact ⟨i + 1, _, by omega, by go_num, by rw [HRE.out, List.length_append]; go_num, ⟨HS.out.drewN _⟩, ⟨fun y => by
                have h1 := HF.out y
                rw [HTT.out]
                unfold upd
                by_cases e : y = t
                · subst e; simp
                · rw [if_neg e, h1]; simp [e]⟩⟩
              case measure => simp [intOf]; omega
          · have hlt' : ¬ (i : Int) < (tos.length : Int) := by omega
            obtain rfl : i = tos.length := by omega
            rw [show (ls.map toE).take tos.length = ls.map toE from by rw [HLN.out.1, ← List.length_map (f := toE)]; exact List.take_length]
            rw [List.take_length] at HF
            have hrl : (real (ls.map toE)).length ≤ 200 := by
              have h2 : (real (ls.map toE)).length ≤ (ls.map toE).length := List.length_filter_le _ _
              rw [List.length_map] at h2; omega
            have hg3 := HG3.out
            clear HG3
            generalize (real (ls.map toE)).length = nr at *
            go_wp2_with fail
            go_loopw [99] (fun v99 wr => ∃ j : Nat, j ≤ outs.length ∧ v99 = .int .i64 j ∧ Aside0 (DoS w3 wr b m vA vH ats hs tos.length f)) (fun v99 _ => outs.length - (intOf v99).toNat)
            case atStart => exact ⟨0, Nat.zero_le _, rfl, HS⟩
            case round =>
              clear HS
              obtain ⟨j, hj, rfl, HS⟩ := hrel
              by_cases hlt9 : j < outs.length
              · have hlt9' : (j : Int) < (outs.length : Int) := by omega
                obtain ⟨ad9, rfl, hx0, hx1⟩ := at_T35 (Kd.C_below H9.out HS.out.pl.bel) (j : Int) (by omega) hlt9'
                rw [Int.toNat_natCast] at hx0 hx1
                have hmem : rd_T35 outs j ∈ outs := by unfold rd_T35; simp [List.getD_eq_getElem?_getD, hlt9]
                have HX := Aside0.mk (HOI.out _ hmem)
                clear hmem
                generalize (rd_T35 outs j).f0 = t at *
                generalize (rd_T35 outs j).f1 = a at *
                have HFT := HF.out t
                by_cases hin : t ∈ tos
                · rw [if_pos hin] at HFT
                  clear hin
                  have HFD := Aside0.mk HFT
                  clear HFT
                  go_wp2_with fail
                  have hlk : ∀ n, Sem.run Try.prog (Instr.lookup 38 (.map (some m)) (.int .i64 t) false) ((wr.alloc (.cells #[.int .i64 t, .int .i64 a] 35)).drewN n) = .ok (.int .i64 1) ((wr.alloc (.cells #[.int .i64 t, .int .i64 a] 35)).drewN n) := fun n => im_run ((HS.out.im.alloc _).drewN n) HX.out HFD.out
                  go_quiet (fail)
                  go_wp2_with fail
                  go_roundw
                  case rel => exact ⟨j + 1, by omega, by go_num, ⟨(HS.out.alloc _).drewN _⟩⟩
                  case measure => simp [intOf]; omega
                · have HNI := Aside0.mk hin
                  rw [if_neg hin] at HFT
                  clear hin
                  have HFD := Aside0.mk HFT
                  clear HFT
                  by_cases htb : t = bs
                  · subst htb
                    go_wp2_with fail
                    have hlk : ∀ n, Sem.run Try.prog (Instr.lookup 38 (.map (some m)) (.int .i64 t) false) ((wr.alloc (.cells #[.int .i64 t, .int .i64 a] 35)).drewN n) = .ok (.int .i64 0) ((wr.alloc (.cells #[.int .i64 t, .int .i64 a] 35)).drewN n) := fun n => im_run ((HS.out.im.alloc _).drewN n) HX.out HFD.out
                    go_quiet (fail)
                    go_wp2_with fail
                    go_roundw
                    case rel => exact ⟨j + 1, by omega, by go_num, ⟨(HS.out.alloc _).drewN _⟩⟩
                    case measure => simp [intOf]; omega
                  · have htb' : (t == bs) = false := by simpa using htb
                    have HGT := Aside0.mk (HG2'.out t HNI.out htb)
                    have htb2 : (t != bs) = true := by simpa using htb
                    have htb3 : decide (¬ t = bs) = true := by simpa using htb
                    go_wp2_with fail
                    have hlk : ∀ n, Sem.run Try.prog (Instr.lookup 38 (.map (some m)) (.int .i64 t) false) ((wr.alloc (.cells #[.int .i64 t, .int .i64 a] 35)).drewN n) = .ok (.int .i64 0) ((wr.alloc (.cells #[.int .i64 t, .int .i64 a] 35)).drewN n) := fun n => im_run ((HS.out.im.alloc _).drewN n) HX.out HFD.out
                    go_quiet (((go_at_call 13; with_reducible exact Calls.quiet_of_same (get_quiet _ _ b _ _ _ _ _ t ((HS.out.pl.alloc _).drewN _) (by have := HAL.out; omega) HGT.out))))
                    go_wp2_with fail
                    go_roundw
                    case rel => exact ⟨j + 1, by omega, by go_num, ⟨(HS.out.alloc _).drewN _⟩⟩
                    case measure => simp [intOf]; omega
              · have hlt9' : ¬ (j : Int) < (outs.length : Int) := by omega
                obtain rfl : j = outs.length := by omega
                have hq : (nr : Int).tdiv 2 = ((nr / 2 : Nat) : Int) := by
                  rw [Int.tdiv_eq_ediv_of_nonneg (by omega)]; omega
                go_wp2_with fail
                (try go_ret)
                exact ⟨by simp; omega, below_step HB.out HS.out.pl.bel⟩
  · rw [show (!decide (OkL (ls.map toE) bs)) = true by simp [hok]] at HWE
    have HOE : Aside0 (moves_Order.f ls bs = some ([], 1)) := ⟨order_no (by omega) HI.out HBS.out hok⟩
    clear hok
    go_enter Try.func3, Try.ntmps3
    go_wp2_with (first | (go_at_call 8; (with_reducible refine (regletlaw18_holds.calls true _ HHE.out).mono ?_); rintro e w1 ⟨rfl, hb1⟩; have n_ := Aside0.mk (below_step HB.out hb1); clear HB hb1; have HB := n_; clear n_) | (go_at_call 9; (with_reducible refine (regletlaw18_parts.calls 2000 _ _ ls _ _ _ (Kd.C_below HR.out HB.out) HC.out HPE.out).mono ?_); rintro e w2 ⟨v5, v6, rfl, h5, h6, hb2⟩; obtain ⟨A5, c5, e5⟩ := Kd.R_slice h5; obtain ⟨A6, c6, e6⟩ := Kd.R_slice h6; subst e5; subst e6; have H5 := Aside0.mk (Kd.R_reads' h5).2.2; have H6 := Aside0.mk (Kd.R_reads' h6).2.2; have H5c := Aside0.mk (Kd.R_reads' h5).2.1; have H6c := Aside0.mk (Kd.R_reads' h6).2.1; have n_ := Aside0.mk (below_step HB.out hb2); clear HB hb2 h5 h6; have HB := n_; clear n_) | (go_at_call 10; (with_reducible refine (moves_Order.calls _ _ ls bs [] 1 _ (Kd.C_below HR.out HB.out) HC.out HOE.out).mono ?_); rintro e w5 ⟨v9, rfl, h9, hb9⟩; obtain ⟨A9, c9, e9⟩ := Kd.R_slice h9; subst e9; have n_ := Aside0.mk (Kd.C_below H5.out hb9); clear H5; have H5 := n_; clear n_; have n_ := Aside0.mk (Kd.C_below H6.out hb9); clear H6; have H6 := n_; clear n_; have n_ := Aside0.mk (below_step HB.out hb9); clear HB h9 hb9; have HB := n_; clear n_) | (go_at_call 11; (with_reducible refine (regletref18_Wrong.calls 2000000 _ _ _ _ _ _ bs _ _ H5.out H5c.out H6.out H6c.out HWE.out).mono ?_); rintro e w3 ⟨rfl, hd⟩; have n_ := Aside0.mk (below_step HB.out (drawn0_below hd)); clear HB hd; have HB := n_; clear n_))
    (try go_ret)
    exact ⟨rfl, HB.out⟩
set_option maxHeartbeats 8000000 in
set_option maxRecDepth 100000 in
theorem do_long (A0 : Option Addr) (c0 n : Nat) (bs : Int) (W : World) (hn : 200 < n) (hm : n ≤ 9223372036854775807) :
    Calls Try.prog 3 #[.slice A0 n c0, .int .i64 bs] W fun e w' => e = .returned (.bool true) ∧ Below W.heap.size W w' := by
  have HB := Aside0.mk (Below.refl W.heap.size W)
  have HHE := Aside0.mk holds_eval
  have hz1 : 200 < (n : Int) := by omega
  go_enter Try.func3, Try.ntmps3
  go_wp2_with (first | (go_at_call 8; (with_reducible refine (regletlaw18_holds.calls true _ HHE.out).mono ?_); rintro e w1 ⟨rfl, hb1⟩; have n_ := Aside0.mk (below_step HB.out hb1); clear HB hb1; have HB := n_; clear n_))
  (try go_ret)
  exact ⟨rfl, HB.out⟩
theorem movesDo_walk (A0 : Option Addr) (c0 : Nat) (ls : List S35) (bs : Int) (W : World) (hr0 : Kd.C k35 W A0 ls.length ls) (hc : ls.length ≤ c0) (hr : ∀ x ∈ ls, inR x.f0 ∧ inR x.f1) (hb : inR bs) :
    Calls Try.prog 3 #[.slice A0 ls.length c0, .int .i64 bs] W fun e w' => e = .returned (.bool true) ∧ Below W.heap.size W w' := by
  by_cases h : ls.length ≤ 200
  · exact do_x A0 c0 ls bs W hr0 hc hr hb h
  · exact do_long A0 c0 ls.length bs W (by omega) (Kd.C_max hr0)
end Go.Proofs.Ytjolnfhgiddafaa.PAll
