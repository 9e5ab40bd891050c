/-
  The walk of the law MovesPlain.
-/
import Derived.Test.YtjolnfhgiddafaaLawPure
namespace Go.Proofs.Ytjolnfhgiddafaa.PAll
open Go.RowKit Go.Proofs.YtjolnfhgiddafaaW.PrintWords Go.Proofs.YtjolnfhgiddafaaW.PrintLast Go.Proofs.YtjolnfhgiddafaaW.PrintMore
open Go.Proofs.Ytjolnfhgiddafaa.MapInt Go.Proofs.Ytjolnfhgiddafaa.Moves
set_option linter.unusedVariables false
set_option linter.unusedSimpArgs false
structure PlS (W w : World) (v5 v6 : Value) (tos frs : List Int) (m n : Nat) (f : Int → Option Int) : Prop where
  bel : Below W.heap.size W w
  r5 : w.ownsRow W.heap.size 3 1 v5 tos.length (nums .i64 tos)
  r6 : w.ownsRow W.heap.size 3 1 v6 frs.length (nums .i64 frs)
  im : IM Try.prog w m n f
  lm : W.heap.size ≤ m
section
variable {W w w2 : World} {v5 v6 : Value} {tos frs : List Int} {m n : Nat} {f f' : Int → Option Int}
theorem PlS.called (h : PlS W w v5 v6 tos frs m n f) (hb : Below w.heap.size w w2) : PlS W w2 v5 v6 tos frs m n f :=
  ⟨below_step h.bel hb, MapInt.own_below h.r5 hb, MapInt.own_below h.r6 hb, h.im.below hb, h.lm⟩
theorem PlS.stored (h : PlS W w v5 v6 tos frs m n f) (hm : IM Try.prog w2 m (n + 1) f') (hg : w.grownBy w2 (some m)) : PlS W w2 v5 v6 tos frs m (n + 1) f' := by
  obtain ⟨es, c, hmap⟩ := h.im.isMap
  exact ⟨h.bel.grown hg h.bel.size (fun k hk => by cases hk; exact h.lm), own_kept h.r5 hg (own_apart_obj h.r5 hmap (fun _ e => by cases e)), own_kept h.r6 hg (own_apart_obj h.r6 hmap (fun _ e => by cases e)), hm, h.lm⟩
theorem PlS.c5 {A : Option Addr} {k c : Nat} (h : PlS W w (.slice A k c) v6 tos frs m n f) : k = tos.length ∧ k ≤ c ∧ Kd.C (Kd.int .i64) w A tos.length tos :=
  Kd.R_reads' (Kd.R_of_own (enc := Value.int .i64) (ok := fun _ => True) h.r5 (fun _ _ => trivial))
theorem PlS.c6 {A : Option Addr} {k c : Nat} (h : PlS W w v5 (.slice A k c) tos frs m n f) : k = frs.length ∧ k ≤ c ∧ Kd.C (Kd.int .i64) w A frs.length frs :=
  Kd.R_reads' (Kd.R_of_own (enc := Value.int .i64) (ok := fun _ => True) h.r6 (fun _ _ => trivial))
end
theorem drawn0_below {w w' : World} (h : Drawn0 w w') : Below w.heap.size w w' := by
  obtain ⟨n, rfl⟩ := h; exact pw_below_drewN (Below.refl _ _) n
set_option maxHeartbeats 16000000 in
set_option maxRecDepth 100000 in
theorem plain_x (A0 : Option Addr) (c0 : Nat) (ls : List S35) (bs : Int) (W : World) (hr0 : Kd.C k35 W A0 ls.length ls) (hc : ls.length ≤ c0) (hr : ∀ x ∈ ls, inR x.f0 ∧ inR x.f1) (hb : inR bs) (hl : ls.length ≤ 200) :
    Calls Try.prog 4 #[.slice A0 ls.length c0, .int .i64 bs] W fun e w' => e = .returned (.bool true) ∧ Below W.heap.size W w' := by
  have HB := Aside0.mk (Below.refl W.heap.size W)
  have HR := Aside0.mk hr0
  have HC := Aside0.mk hc
  have HI := Aside0.mk hr
  have HBS := Aside0.mk hb
  have HPE := Aside0.mk (parts_eval ls (by omega) 2000 (by decide))
  have HWE := Aside0.mk (wrong_eval ls bs (by omega) 2000000 (by decide))
  have hl' : (ls.length : Int) ≤ 200 := by omega
  obtain ⟨tos, htos⟩ : ∃ t, t = ls.map (·.f0) := ⟨_, rfl⟩
  obtain ⟨frs, hfrs⟩ : ∃ t, t = ls.map (·.f1) := ⟨_, rfl⟩
  rw [← htos, ← hfrs] at HPE HWE
  have HTO := Aside0.mk htos
  have HFR := Aside0.mk hfrs
  have htl : tos.length ≤ 200 := by rw [htos, List.length_map]; exact hl
  have htl' : (tos.length : Int) ≤ 200 := by omega
  clear htos hfrs
  have HHE := Aside0.mk holds_eval
  clear hr0 hc hr hb
  have hmk := @run_makeMap Try.prog
  by_cases hok : OkL (ls.map toE) bs
  · have HOK := Aside0.mk hok
    rw [show (!decide (OkL (ls.map toE) bs)) = false by simp [hok]] at HWE
    clear hok
    go_enter Try.func4, Try.ntmps4
    go_wp2_with (first | (go_at_call 8; (with_reducible refine (regletlaw18_holds.calls true _ HHE.out).mono ?_); rintro e w1 ⟨rfl, hb1⟩; have n_ := Aside0.mk (below_step HB.out hb1); clear HB hb1; have HB := n_; clear n_) | (go_at_call 9; (with_reducible refine (regletlaw18_parts.calls 2000 _ _ ls _ _ _ (Kd.C_below HR.out HB.out) HC.out HPE.out).mono ?_); rintro e w2 ⟨v5, v6, rfl, h5, h6, hb2⟩; obtain ⟨A5, c5, e5⟩ := Kd.R_slice h5; obtain ⟨A6, c6, e6⟩ := Kd.R_slice h6; subst e5; subst e6; have H5 := Aside0.mk h5; have H6 := Aside0.mk h6; have HB1 := Aside0.mk HB.out.size; have n_ := Aside0.mk (below_step HB.out hb2); clear HB hb2 h5 h6; have HB := n_; clear n_) | (go_at_call 11; (with_reducible refine (regletref18_Wrong.calls 2000000 _ _ _ _ _ _ bs _ _ (Kd.R_reads' H5.out).2.2 (Kd.R_reads' H5.out).2.1 (Kd.R_reads' H6.out).2.2 (Kd.R_reads' H6.out).2.1 HWE.out).mono ?_); rintro e w3 ⟨rfl, hd⟩; have HD := Aside0.mk (drawn0_below hd); clear hd))
    have HS := Aside0.mk (show PlS W ((w3.alloc (.map #[] 0))) _ _ tos frs w3.heap.size 0 (fun _ => none) from ⟨(below_step HB.out HD.out).alloc (Nat.le_trans HB.out.size HD.out.size) _, MapInt.own_below (own_weaken (Kd.own_of_R H5.out) HB1.out) (HD.out.alloc HD.out.size _), MapInt.own_below (own_weaken (Kd.own_of_R H6.out) HB1.out) (HD.out.alloc HD.out.size _), IM.made _ _, Nat.le_trans HB.out.size HD.out.size⟩)
    clear HB HD H5 H6 HB1 HPE HWE HHE
    generalize w3.heap.size = m at *
    go_loopw [33] (fun v33 wr => ∃ (i : Nat) (f : Int → Option Int), i ≤ tos.length ∧ v33 = .int .i64 i ∧ Aside0 (PlS W wr (.slice A5 tos.length c5) (.slice A6 frs.length c6) tos frs m i f) ∧ Aside0 (∀ y, 0 ≤ (f y).getD 0 ∧ (f y).getD 0 ≤ i ∧ (0 < (f y).getD 0 ↔ y ∈ tos.take i))) (fun v33 _ => tos.length - (intOf v33).toNat)
    case atStart => exact ⟨0, _, Nat.zero_le _, rfl, HS, ⟨fun y => by simp⟩⟩
    case round =>
      clear HS
      obtain ⟨i, f, hi, rfl, HS, HF⟩ := hrel
      by_cases hlt : i < tos.length
      · have hlt' : (i : Int) < (tos.length : Int) := by omega
        obtain ⟨ad, rfl, hc0⟩ := Kd.at_int (HS.out.c5).2.2 (i : Int) (by omega) hlt'
        rw [Int.toNat_natCast] at hc0
        have HX : Aside0 (inR (rd tos i)) := ⟨by
          have h1 : i < ls.length := by have := HTO.out; rw [this, List.length_map] at hlt; exact hlt
          rw [HTO.out, rd_map0 ls i h1]
          exact (HI.out (rd_T35 ls i) (by unfold rd_T35; simp [List.getD_eq_getElem?_getD, h1])).1⟩
        have HTK : Aside0 (tos.take (i + 1) = tos.take i ++ [rd tos i]) := ⟨by
          rw [List.take_succ_eq_append_getElem hlt]; unfold rd; simp [List.getD_eq_getElem?_getD, hlt]⟩
        have hf0 := (HF.out (rd tos i)).1
        have hf1 := (HF.out (rd tos i)).2.1
        have hfe : Aside0 ((f (rd tos i)).getD 0 = (f (rd tos i)).getD 0) := ⟨rfl⟩
        obtain ⟨d, hd⟩ : ∃ d, d = (f (rd tos i)).getD 0 := ⟨_, rfl⟩
        have HD := Aside0.mk hd.symm
        rw [← hd] at hf0 hf1
        clear hd hfe
        generalize rd tos i = x at *
        have hi3 : (i : Int) ≤ 200 := by omega
        go_wp2_with (first | (at_lookup; refine MapInt.lookv Try.underlying3 rfl (.tmp 36) _ 38 rfl Try.underlying38 (zero3 _) rfl HS.out.im rfl HX.out HD.out ?_) | (at_mapUpdate; refine MapInt.store Try.underlying3 rfl (.tmp 36) _ _ 38 rfl Try.underlying38 rfl HS.out.im (by omega) (kx := x) (vx := d + 1) rfl (by go_num) HX.out (by unfold inR; omega) ?_; intro w2 hm2 hg2 hz2; have n_ := Aside0.mk (HS.out.stored hm2 hg2); clear HS hm2 hg2 hz2; have HS := n_; clear n_))
        go_roundw
        case rel =>
          refine ⟨i + 1, _, by omega, by go_num, HS, ⟨fun y => ?_⟩⟩
          have h1 := HF.out y
          rw [HTK.out]
          unfold upd
          by_cases e : y = x
          · subst e; rw [if_pos rfl]; simp; omega
          · rw [if_neg e]
            refine ⟨h1.1, by omega, ?_⟩
            rw [h1.2.2]; simp [e]
        case measure => simp [intOf]; omega
      · have hlt' : ¬ (i : Int) < (tos.length : Int) := by omega
        obtain rfl : i = tos.length := by omega
        rw [List.take_length] at HF
        obtain ⟨outs, houts⟩ : ∃ o, o = (orderF bs (ls.map toE)).map ofE := ⟨_, rfl⟩
        have HOE : Aside0 (moves_Order.f ls bs = some (outs, 0)) := ⟨by rw [houts]; exact order_ok (by omega) HI.out HBS.out HOK.out⟩
        have HOU := Aside0.mk houts
        clear houts
        go_wp2_with (first | (go_at_call 10; (with_reducible refine (moves_Order.calls _ _ ls bs outs 0 _ (Kd.C_below HR.out HS.out.bel) HC.out HOE.out).mono ?_); rintro e w5 ⟨v9, rfl, h9, hb9⟩; obtain ⟨A9, c9, e9⟩ := Kd.R_slice h9; subst e9; have H9 := Aside0.mk (Kd.R_reads' h9); have n_ := Aside0.mk (HS.out.called hb9); clear HS h9 hb9; have HS := n_; clear n_))
        have HLN : Aside0 (tos.length = ls.length ∧ frs.length = ls.length) := ⟨by rw [HTO.out, HFR.out, List.length_map, List.length_map]; exact ⟨rfl, rfl⟩⟩
        have H9 := Aside0.mk H9.out.2.2
        go_loopw [11, 12, 52] (fun v11 v12 v52 wr => ∃ i : Nat, i ≤ tos.length ∧ v52 = .int .i64 i ∧ v11 = .int .i64 ((real ((ls.map toE).take i)).length : Int) ∧ v12 = .bool ((real ((ls.map toE).take i)).any (fun e => decide (e.2 ∈ tos))) ∧ Aside0 (PlS W wr (.slice A5 tos.length c5) (.slice A6 frs.length c6) tos frs m tos.length f) ∧ Aside0 (Kd.C k35 wr A9 outs.length outs)) (fun _ _ v52 _ => tos.length - (intOf v52).toNat)
        case atStart => exact ⟨0, Nat.zero_le _, rfl, rfl, rfl, HS, H9⟩
        case round =>
          clear HS H9
          obtain ⟨i, hi, rfl, rfl, rfl, HS, H9⟩ := hrel
          by_cases hlt : i < tos.length
          · have hlt' : (i : Int) < (tos.length : Int) := by omega
            have h6l : (i : Int) < (frs.length : Int) := by have := HLN.out; omega
            obtain ⟨ad5, rfl, hc5⟩ := Kd.at_int (HS.out.c5).2.2 (i : Int) (by omega) hlt'
            obtain ⟨ad6, rfl, hc6⟩ := Kd.at_int (HS.out.c6).2.2 (i : Int) (by omega) h6l
            rw [Int.toNat_natCast] at hc5 hc6
            have h1 : i < ls.length := by have := HLN.out; omega
            have e5 : rd tos i = (rd_T35 ls i).f0 := by rw [HTO.out]; exact rd_map0 ls i h1
            have e6 : rd frs i = (rd_T35 ls i).f1 := by rw [HFR.out]; exact rd_map1 ls i h1
            have HTK := Aside0.mk (takeE ls i h1)
            have HT0 := HI.out (rd_T35 ls i) (by unfold rd_T35; simp [List.getD_eq_getElem?_getD, h1])
            rw [e5] at hc5
            rw [e6] at hc6
            clear e5 e6
            generalize (rd_T35 ls i).f0 = t at *
            generalize (rd_T35 ls i).f1 = a at *
            have HA := Aside0.mk HT0.2
            clear HT0
            have hrl : (real ((ls.map toE).take i)).length ≤ 200 := by
              have h2 : (real ((ls.map toE).take i)).length ≤ ((ls.map toE).take i).length := List.length_filter_le _ _
              rw [List.length_take, List.length_map] at h2; omega
            have hrl' : ((real ((ls.map toE).take i)).length : Int) ≤ 200 := by omega
            have hd0 := (HF.out a).1
            have HDA := Aside0.mk (HF.out a).2.2
            obtain ⟨d, hd⟩ : ∃ d, d = (f a).getD 0 := ⟨_, rfl⟩
            rw [← hd] at hd0 HDA
            have HDV := Aside0.mk hd.symm
            clear hd
            by_cases hta : t = a
            · have HRE : Aside0 (real ((ls.map toE).take (i + 1)) = real ((ls.map toE).take i)) := ⟨by rw [HTK.out]; unfold real; rw [List.filter_append]; simp [hta]⟩
              have hta' : (t == a) = true := by simpa using hta
              clear hta hd0
              go_wp2_with (first | go_quiet (fail))
              go_roundw
              case rel => exact ⟨i + 1, by omega, by go_num, by rw [HRE.out], by rw [HRE.out], ⟨HS.out.called (pw_below_drewN (Below.refl _ _) _)⟩, ⟨Kd.C_drewN H9.out _⟩⟩
              case measure => simp [intOf]; omega
            · have hta' : (t == a) = false := by simpa using hta
              have HRE : Aside0 (real ((ls.map toE).take (i + 1)) = real ((ls.map toE).take i) ++ [(t, a)]) := ⟨by rw [HTK.out]; unfold real; rw [List.filter_append]; simp [hta]⟩
              clear hta
              generalize hb : (real ((ls.map toE).take i)).any (fun e => decide (e.2 ∈ tos)) = b at *
              cases b with
              | true =>
                go_wp2_with (first | go_quiet (fail))
                go_roundw
                case rel => exact ⟨i + 1, by omega, by go_num, by rw [HRE.out, List.length_append]; go_num, by rw [HRE.out, List.any_append, hb]; rfl, ⟨HS.out.called (pw_below_drewN (Below.refl _ _) _)⟩, ⟨Kd.C_drewN H9.out _⟩⟩
                case measure => simp [intOf]; omega
              | false =>
                have HBB := Aside0.mk hb
                clear hb
                by_cases hdp : 0 < d
                · have HIN : Aside0 (a ∈ tos) := ⟨HDA.out.1 hdp⟩
                  go_wp2_with (first | (at_lookup; (try (refine gate_guard (by rfl) ?_; dsimp only)); refine MapInt.lookv Try.underlying3 rfl (.tmp 68) _ 38 rfl Try.underlying38 (zero3 _) rfl HS.out.im rfl HA.out HDV.out ?_) | go_quiet (fail))
                  go_roundw
                  case rel => exact ⟨i + 1, by omega, by go_num, by rw [HRE.out, List.length_append]; go_num, by rw [HRE.out, List.any_append, HBB.out]; simp [HIN.out], ⟨HS.out.called (pw_below_drewN (Below.refl _ _) _)⟩, ⟨Kd.C_drewN H9.out _⟩⟩
                  case measure => simp [intOf]; omega
                · have HIN : Aside0 (a ∉ tos) := ⟨fun h => hdp (HDA.out.2 h)⟩
                  obtain rfl : d = 0 := by omega
                  go_wp2_with (first | (at_lookup; (try (refine gate_guard (by rfl) ?_; dsimp only)); refine MapInt.lookv Try.underlying3 rfl (.tmp 68) _ 38 rfl Try.underlying38 (zero3 _) rfl HS.out.im rfl HA.out HDV.out ?_) | go_quiet (fail))
                  go_roundw
                  case rel => exact ⟨i + 1, by omega, by go_num, by rw [HRE.out, List.length_append]; go_num, by rw [HRE.out, List.any_append, HBB.out]; simp [HIN.out], ⟨HS.out.called (pw_below_drewN (Below.refl _ _) _)⟩, ⟨Kd.C_drewN H9.out _⟩⟩
                  case measure => simp [intOf]; omega
          · have hlt' : ¬ (i : Int) < (tos.length : Int) := by omega
            obtain rfl : i = tos.length := by omega
            rw [show (ls.map toE).take tos.length = ls.map toE from by rw [HLN.out.1, ← List.length_map (f := toE)]; exact List.take_length]
            obtain ⟨G1, G2, G3, G4, G5, G6⟩ := order_good (ls.map toE) bs HOK.out.1 HOK.out.2
            have HG4 : Aside0 (∀ x ∈ outs, x.f0 ≠ x.f1) := ⟨fun x hx => by
              rw [HOU.out] at hx
              obtain ⟨e, he, rfl⟩ := List.mem_map.1 hx
              exact (G4 e he).1⟩
            have hkeys : keys (ls.map toE) = tos := by rw [HTO.out]; unfold keys; rw [List.map_map]; rfl
            have HG5 : Aside0 ((real (ls.map toE)).any (fun e => decide (e.2 ∈ tos)) = false → outs.length = (real (ls.map toE)).length ∧ ∀ x ∈ outs, x.f0 ≠ bs ∧ x.f1 ≠ bs) := ⟨fun h => by
              have h2 := G5 (fun e he hk => by
                rw [List.any_eq_false] at h
                have := h e he
                rw [hkeys] at hk
                simp [hk] at this)
              refine ⟨by rw [HOU.out, List.length_map]; exact h2.1, fun x hx => ?_⟩
              rw [HOU.out] at hx
              obtain ⟨e, he, rfl⟩ := List.mem_map.1 hx
              exact h2.2 e he⟩
            have hrl : (real (ls.map toE)).length ≤ 200 := by
              have h2 : (real (ls.map toE)).length ≤ (ls.map toE).length := List.length_filter_le _ _
              rw [List.length_map] at h2; omega
            have hol : outs.length ≤ 300 := by rw [HOU.out, List.length_map]; omega
            have hol' : (outs.length : Int) ≤ 300 := by omega
            clear G1 G2 G3 G4 G5 G6 hkeys
            generalize (real (ls.map toE)).any (fun e => decide (e.2 ∈ tos)) = b at *
            generalize (real (ls.map toE)).length = nr at *
            have HBW := Aside0.mk HS.out.bel
            clear HS
            go_wp2_with fail
            go_loopw [79] (fun v79 wr => ∃ j : Nat, j ≤ outs.length ∧ v79 = .int .i64 j ∧ Aside0 (Below W.heap.size W wr) ∧ Aside0 (Kd.C k35 wr A9 outs.length outs)) (fun v79 _ => outs.length - (intOf v79).toNat)
            case atStart => exact ⟨0, Nat.zero_le _, rfl, HBW, H9⟩
            case round =>
              clear HBW H9
              obtain ⟨j, hj, rfl, HBW, H9⟩ := hrel
              by_cases hlt9 : j < outs.length
              · have hlt9' : (j : Int) < (outs.length : Int) := by omega
                obtain ⟨ad9, rfl, hx0, hx1⟩ := at_T35 H9.out (j : Int) (by omega) hlt9'
                rw [Int.toNat_natCast] at hx0 hx1
                have hmem : rd_T35 outs j ∈ outs := by unfold rd_T35; simp [List.getD_eq_getElem?_getD, hlt9]
                have hne := HG4.out _ hmem
                have hne' : ((rd_T35 outs j).f0 == (rd_T35 outs j).f1) = false := by simpa using hne
                cases b with
                | true =>
                  clear hne hmem
                  generalize (rd_T35 outs j).f0 = t at *
                  generalize (rd_T35 outs j).f1 = a at *
                  go_wp2_with fail
                  go_roundw
                  case rel => exact ⟨j + 1, by omega, by go_num, ⟨HBW.out.alloc HBW.out.size _⟩, ⟨Kd.C_alloc H9.out _⟩⟩
                  case measure => simp [intOf]; omega
                | false =>
                  have h5 := (HG5.out rfl).2 _ hmem
                  have h5a : ((rd_T35 outs j).f0 == bs) = false := by simpa using h5.1
                  have h5b : ((rd_T35 outs j).f1 == bs) = false := by simpa using h5.2
                  clear hne hmem h5
                  generalize (rd_T35 outs j).f0 = t at *
                  generalize (rd_T35 outs j).f1 = a at *
                  go_wp2_with fail
                  go_roundw
                  case rel => exact ⟨j + 1, by omega, by go_num, ⟨HBW.out.alloc HBW.out.size _⟩, ⟨Kd.C_alloc H9.out _⟩⟩
                  case measure => simp [intOf]; omega
              · have hlt9' : ¬ (j : Int) < (outs.length : Int) := by omega
                obtain rfl : j = outs.length := by omega
                cases b with
                | true =>
                  go_wp2_with fail
                  (try go_ret)
                  exact ⟨rfl, HBW.out⟩
                | false =>
                  have h5 := (HG5.out rfl).1
                  have h5' : ((outs.length : Int) == (nr : Int)) = true := by simp; omega
                  clear h5
                  go_wp2_with fail
                  (try go_ret)
                  exact ⟨rfl, HBW.out⟩
  · rw [show (!decide (OkL (ls.map toE) bs)) = true by simp [hok]] at HWE
    clear hok
    go_enter Try.func4, Try.ntmps4
    go_wp2_with (first | (go_at_call 8; (with_reducible refine (regletlaw18_holds.calls true _ HHE.out).mono ?_); rintro e w1 ⟨rfl, hb1⟩; have n_ := Aside0.mk (below_step HB.out hb1); clear HB hb1; have HB := n_; clear n_) | (go_at_call 9; (with_reducible refine (regletlaw18_parts.calls 2000 _ _ ls _ _ _ (Kd.C_below HR.out HB.out) HC.out HPE.out).mono ?_); rintro e w2 ⟨v5, v6, rfl, h5, h6, hb2⟩; obtain ⟨A5, c5, e5⟩ := Kd.R_slice h5; obtain ⟨A6, c6, e6⟩ := Kd.R_slice h6; subst e5; subst e6; have H5 := Aside0.mk h5; have H6 := Aside0.mk h6; have HB1 := Aside0.mk HB.out.size; have n_ := Aside0.mk (below_step HB.out hb2); clear HB hb2 h5 h6; have HB := n_; clear n_) | (go_at_call 11; (with_reducible refine (regletref18_Wrong.calls 2000000 _ _ _ _ _ _ bs _ _ (Kd.R_reads' H5.out).2.2 (Kd.R_reads' H5.out).2.1 (Kd.R_reads' H6.out).2.2 (Kd.R_reads' H6.out).2.1 HWE.out).mono ?_); rintro e w3 ⟨rfl, hd⟩; have HD := Aside0.mk (drawn0_below hd); clear hd))
    (try go_ret)
    exact ⟨rfl, below_step HB.out HD.out⟩
set_option maxHeartbeats 8000000 in
set_option maxRecDepth 100000 in
theorem plain_long (A0 : Option Addr) (c0 n : Nat) (bs : Int) (W : World) (hn : 200 < n) (hm : n ≤ 9223372036854775807) :
    Calls Try.prog 4 #[.slice A0 n c0, .int .i64 bs] W fun e w' => e = .returned (.bool true) ∧ Below W.heap.size W w' := by
  have HB := Aside0.mk (Below.refl W.heap.size W)
  have HHE := Aside0.mk holds_eval
  have hz1 : 200 < (n : Int) := by omega
  go_enter Try.func4, Try.ntmps4
  go_wp2_with (first | (go_at_call 8; (with_reducible refine (regletlaw18_holds.calls true _ HHE.out).mono ?_); rintro e w1 ⟨rfl, hb1⟩; have n_ := Aside0.mk (below_step HB.out hb1); clear HB hb1; have HB := n_; clear n_))
  (try go_ret)
  exact ⟨rfl, HB.out⟩
theorem movesPlain_walk (A0 : Option Addr) (c0 : Nat) (ls : List S35) (bs : Int) (W : World) (hr0 : Kd.C k35 W A0 ls.length ls) (hc : ls.length ≤ c0) (hr : ∀ x ∈ ls, inR x.f0 ∧ inR x.f1) (hb : inR bs) :
    Calls Try.prog 4 #[.slice A0 ls.length c0, .int .i64 bs] W fun e w' => e = .returned (.bool true) ∧ Below W.heap.size W w' := by
  by_cases h : ls.length ≤ 200
  · exact plain_x A0 c0 ls bs W hr0 hc hr hb h
  · exact plain_long A0 c0 ls.length bs W (by omega) (Kd.C_max hr0)
end Go.Proofs.Ytjolnfhgiddafaa.PAll
