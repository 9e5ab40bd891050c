/-
  The walk of moves.Order. Printed by wip/moves/order.py.
-/
import Derived.Test.YtjolnfhgiddafaaOrderPure
namespace Go.Proofs.Ytjolnfhgiddafaa.PAll
open Go.RowKit Go.Proofs.YtjolnfhgiddafaaW.PrintWords Go.Proofs.YtjolnfhgiddafaaW.PrintLast Go.Proofs.YtjolnfhgiddafaaW.PrintMore
open Go.Proofs.Ytjolnfhgiddafaa.MapInt Go.Proofs.Ytjolnfhgiddafaa.Moves
set_option linter.unusedVariables false
set_option linter.unusedSimpArgs false
def OPost (W : World) (ls : List S35) (bs : Int) (e : Ending) (w' : World) : Prop := Below W.heap.size W w' ∧
  ((¬ OkL (ls.map toE) bs ∧ e = .returned (.tuple #[.slice none 0 0, .int .i64 1])) ∨
   (OkL (ls.map toE) bs ∧ ∃ v, e = .returned (.tuple #[v, .int .i64 0]) ∧ w'.ownsRow W.heap.size 35 2 v (orderF bs (ls.map toE)).length (cellsE (orderF bs (ls.map toE)))))
set_option maxHeartbeats 16000000 in
set_option maxRecDepth 100000 in
theorem order_calls (W : World) (A0 : Option Addr) (c0 : Nat) (ls : List S35) (bs : Int) (hr0 : Kd.C k35 W A0 ls.length ls) (hr : ∀ x ∈ ls, inR x.f0 ∧ inR x.f1) (hb : inR bs) (hl : ls.length ≤ 1000) :
    Calls Try.prog 10 #[.slice A0 ls.length c0, .int .i64 bs] W (OPost W ls bs) := by
  have HR := Aside0.mk hr0
  have HI := Aside0.mk hr
  have HBS := Aside0.mk hb
  generalize hQ : OPost W ls bs = Q
  have HQ : Aside0 (OPost W ls bs = Q) := ⟨hQ⟩
  clear hr0 hr hb hQ
  have hmk := @run_makeMap Try.prog
  go_enter Try.func10, Try.ntmps10
  go_wp2_with fail
  have HS := Aside0.mk (PSt.start W)
  generalize W.heap.size + 1 + 1 + 1 = bR at *
  generalize W.heap.size + 1 + 1 = mR at *
  generalize W.heap.size + 1 = bF at *
  generalize hmF : W.heap.size = mF at HS ⊢
  clear hmF
  go_loopw [31] (fun v31 wr => ∃ i : Nat, i ≤ ls.length ∧ v31 = .int .i64 i ∧ Aside0 (PSt W wr bF bR mF mR i (val ((ls.map toE).take i)) (fun _ => none)) ∧ Aside0 (OkL ((ls.map toE).take i) bs)) (fun v31 _ => ls.length - (intOf v31).toNat)
  case atStart => exact ⟨0, Nat.zero_le _, rfl, HS, ⟨by simp [keys], fun e he => by simp at he⟩⟩
  case round =>
    clear HS
    obtain ⟨i, hi, rfl, HS, HO⟩ := hrel
    by_cases hlt : i < ls.length
    · have hlt' : (i : Int) < (ls.length : Int) := by omega
      obtain ⟨ad, rfl, hc0, hc1⟩ := at_T35 HR.out (i : Int) (by omega) hlt'
      rw [Int.toNat_natCast] at hc0 hc1
      have hx0 : wr.cell? (ad.add (i * 2)) = some (.int .i64 (rd_T35 ls i).f0) := (HS.out.bel.cell (World.block_lt_of_cell? W _ hc0)).trans hc0
      have hx1 : wr.cell? ⟨(ad.add (i * 2)).block, (ad.add (i * 2)).off + 1, none⟩ = some (.int .i64 (rd_T35 ls i).f1) := (HS.out.bel.cell (World.block_lt_of_cell? W _ hc1)).trans hc1
      clear hc0 hc1
      have HT0 := HI.out (rd_T35 ls i) (by unfold rd_T35; simp [List.getD_eq_getElem?_getD, hlt])
      have HTK := Aside0.mk (takeE ls i hlt)
      generalize (rd_T35 ls i).f0 = t at *
      generalize (rd_T35 ls i).f1 = a at *
      have HT := Aside0.mk HT0.1
      have HA := Aside0.mk HT0.2
      clear HT0
      by_cases hin : t ∈ keys ((ls.map toE).take i)
      · have HK : Aside0 ((val ((ls.map toE).take i) t).isSome = true) := ⟨by rw [val_isSome HO.out.1]; simpa using hin⟩
        have HNO := Aside0.mk (not_okL (bs := bs) rfl HTK.out (.inl hin))
        clear hin
        go_wp2_with (first | (refine cell_load rfl 38 (.tmp 6) rfl Try.underlying38 rfl rfl ((HS.out.alloc _).hF.cell rfl) ?_) | (at_lookup; refine MapInt.lookv_ok Try.underlying3 rfl (.tmp 36) _ 38 rfl Try.underlying38 (zero3 _) rfl (HS.out.alloc _).iF rfl HT.out HK.out ?_) | (at_mapUpdate; refine MapInt.store Try.underlying3 rfl (.tmp 55) _ _ 38 rfl Try.underlying38 rfl (HS.out.alloc _).iF (by omega) rfl rfl HT.out HA.out ?_; intro w2 hm2 hg2 hz2; have n_ := Aside0.mk (((HS.out.alloc _).mapF hm2 hg2 (Nat.le_succ _)).funs HV.out rfl); clear HS; have HS := n_; clear n_; clear hm2 hg2 hz2))
        (try go_ret2)
        rw [← HQ.out]
        exact ⟨(HS.out.alloc _).bel, .inl ⟨HNO.out, rfl⟩⟩
      · have HK : Aside0 ((val ((ls.map toE).take i) t).isSome = false) := ⟨by rw [val_isSome HO.out.1]; simpa using hin⟩
        by_cases h1 : t = bs
        · have HNO := Aside0.mk (not_okL (bs := bs) rfl HTK.out (.inr (.inl h1)))
          have h1' : (t == bs) = true := by simpa using h1
          clear h1 hin
          go_wp2_with (first | (refine cell_load rfl 38 (.tmp 6) rfl Try.underlying38 rfl rfl ((HS.out.alloc _).hF.cell rfl) ?_) | (at_lookup; refine MapInt.lookv_ok Try.underlying3 rfl (.tmp 36) _ 38 rfl Try.underlying38 (zero3 _) rfl (HS.out.alloc _).iF rfl HT.out HK.out ?_) | (at_mapUpdate; refine MapInt.store Try.underlying3 rfl (.tmp 55) _ _ 38 rfl Try.underlying38 rfl (HS.out.alloc _).iF (by omega) rfl rfl HT.out HA.out ?_; intro w2 hm2 hg2 hz2; have n_ := Aside0.mk (((HS.out.alloc _).mapF hm2 hg2 (Nat.le_succ _)).funs HV.out rfl); clear HS; have HS := n_; clear n_; clear hm2 hg2 hz2))
          (try go_ret2)
          rw [← HQ.out]
          exact ⟨(HS.out.alloc _).bel, .inl ⟨HNO.out, rfl⟩⟩
        · by_cases h2 : a = bs
          · have HNO := Aside0.mk (not_okL (bs := bs) rfl HTK.out (.inr (.inr h2)))
            have h1' : (t == bs) = false := by simpa using h1
            have h2' : (a == bs) = true := by simpa using h2
            clear h1 h2 hin
            go_wp2_with (first | (refine cell_load rfl 38 (.tmp 6) rfl Try.underlying38 rfl rfl ((HS.out.alloc _).hF.cell rfl) ?_) | (at_lookup; refine MapInt.lookv_ok Try.underlying3 rfl (.tmp 36) _ 38 rfl Try.underlying38 (zero3 _) rfl (HS.out.alloc _).iF rfl HT.out HK.out ?_) | (at_mapUpdate; refine MapInt.store Try.underlying3 rfl (.tmp 55) _ _ 38 rfl Try.underlying38 rfl (HS.out.alloc _).iF (by omega) rfl rfl HT.out HA.out ?_; intro w2 hm2 hg2 hz2; have n_ := Aside0.mk (((HS.out.alloc _).mapF hm2 hg2 (Nat.le_succ _)).funs HV.out rfl); clear HS; have HS := n_; clear n_; clear hm2 hg2 hz2))
            (try go_ret2)
            rw [← HQ.out]
            exact ⟨(HS.out.alloc _).bel, .inl ⟨HNO.out, rfl⟩⟩
          · have HOK := Aside0.mk (okL_snoc (a := a) HO.out hin h1 h2)
            have HV : Aside0 (val ((ls.map toE).take (i + 1)) = upd (val ((ls.map toE).take i)) t a) := ⟨by rw [HTK.out]; exact val_snoc a hin⟩
            have h1' : (t == bs) = false := by simpa using h1
            have h2' : (a == bs) = false := by simpa using h2
            clear h1 h2 hin
            go_wp2_with (first | (refine cell_load rfl 38 (.tmp 6) rfl Try.underlying38 rfl rfl ((HS.out.alloc _).hF.cell rfl) ?_) | (at_lookup; refine MapInt.lookv_ok Try.underlying3 rfl (.tmp 36) _ 38 rfl Try.underlying38 (zero3 _) rfl (HS.out.alloc _).iF rfl HT.out HK.out ?_) | (at_mapUpdate; refine MapInt.store Try.underlying3 rfl (.tmp 55) _ _ 38 rfl Try.underlying38 rfl (HS.out.alloc _).iF (by omega) rfl rfl HT.out HA.out ?_; intro w2 hm2 hg2 hz2; have n_ := Aside0.mk (((HS.out.alloc _).mapF hm2 hg2 (Nat.le_succ _)).funs HV.out rfl); clear HS; have HS := n_; clear n_; clear hm2 hg2 hz2))
            go_roundw
            case rel => exact ⟨i + 1, by omega, by go_num, HS, ⟨by rw [HTK.out]; exact HOK.out⟩⟩
            case measure => simp [intOf]; omega
    · have hlt' : ¬ (i : Int) < (ls.length : Int) := by omega
      obtain rfl : i = ls.length := by omega
      rw [show (ls.map toE).take ls.length = ls.map toE from by rw [← List.length_map (f := toE)]; exact List.take_length] at HS HO
      go_wp2_with (first | (refine cell_load rfl 38 (.tmp 6) rfl Try.underlying38 rfl rfl (HS.out.hF.cell rfl) ?_) | (at_range; refine MapInt.rng Try.underlying3 rfl (.tmp 61) 38 rfl Try.underlying38 rfl HS.out.iF ?_; intro w2 hrg hg2 hz2; have HP0 := Aside0.mk (PRg.start HS.out hrg hg2 (left' := fun x => decide (x ∈ keys (ls.map toE))) (by funext y; exact (val_isSome HO.out.1).symm)); clear HS hrg hg2))
      (try go_frame)
      obtain ⟨cn, hp⟩ := HP0.out
      have HP := Aside0.mk hp
      clear HP0 hp
      generalize hrr : wr.heap.size = r at *
      clear hrr hz2
      have HLK : Aside0 ((keys (ls.map toE)).length = ls.length) := ⟨by simp [keys]⟩
      go_loopg [] (ls.length) (fun k w3 => ∃ (ks : List Int) (n cn : Nat) (fR : Int → Option Int), Aside0 (PRg W w3 bF bR mF mR n r cn (val (stillF (ls.map toE) ks)) fR (fun x => decide (x ∈ ks))) ∧ Aside0 (ks.length = k ∧ ks.Nodup ∧ (∀ x ∈ ks, x ∈ keys (ls.map toE)) ∧ (∀ y, (fR y).getD 0 = (cnt (doneF (ls.map toE) ks) y : Int)) ∧ n + k ≤ 2000))
      case atStart =>
        refine ⟨keys (ls.map toE), ls.length, cn, fun _ => none, ?_, ⟨HLK.out, HO.out.1, fun _ h => h, fun y => by rw [doneF_all]; rfl, by omega⟩⟩
        rw [stillF_all]; exact HP
      case round =>
        clear HP cn
        obtain ⟨ks, n, cn, fR, HP, HK⟩ := hrel
        go_wp2_with (first | (at_next; refine MapInt.nxt Try.underlying3 rfl (.tmp 62) rfl rfl HP.out.rg ?_ ?_))
        · intro h0
          have hks : ks = [] := List.eq_nil_iff_forall_not_mem.2 fun x hx => by
            obtain ⟨a, ha⟩ := mem_keys.1 (HK.out.2.2.1 x hx)
            obtain ⟨y0, hy0, hye⟩ := List.mem_map.1 ha
            have := (HI.out y0 hy0).1
            rw [show y0.f0 = x from congrArg Prod.fst hye] at this
            have := h0 x this
            simp [hx] at this
          subst hks
          have HRd := Aside0.mk HK.out.2.2.2.1
          rw [doneF_nil] at HRd
          rw [stillF_nil] at HP
          have hnn : n ≤ 2000 := by have := HK.out.2.2.2.2; omega
          clear HK h0
          go_wp2_with fail
          have HS := Aside0.mk (OSt.start HP.out.st)
          clear HP
          generalize wr.heap.size + 1 = bE at *
          generalize wr.heap.size = bO at *
          go_loopw [79] (fun v79 wr => ∃ (i : Nat) (vE : Value), i ≤ ls.length ∧ v79 = .int .i64 i ∧ Aside0 (OSt W wr bF bR bO bE mF mR n (val (real (ls.map toE))) fR (.slice none 0 0) vE (.slice none 0 0) vE (free0 ((ls.map toE).take i) (real (ls.map toE))) [])) (fun v79 _ => ls.length - (intOf v79).toNat)
          case atStart => exact ⟨0, _, Nat.zero_le _, rfl, HS⟩
          case round =>
            clear HS
            obtain ⟨i, vE, hi, rfl, HS⟩ := hrel
            by_cases hlt : i < ls.length
            · have hlt' : (i : Int) < (ls.length : Int) := by omega
              obtain ⟨ad, rfl, hc0, hc1⟩ := at_T35 HR.out (i : Int) (by omega) hlt'
              rw [Int.toNat_natCast] at hc0 hc1
              have hx0 : wr.cell? (ad.add (i * 2)) = some (.int .i64 (rd_T35 ls i).f0) := (HS.out.bel.cell (World.block_lt_of_cell? W _ hc0)).trans hc0
              have hx1 : wr.cell? ⟨(ad.add (i * 2)).block, (ad.add (i * 2)).off + 1, none⟩ = some (.int .i64 (rd_T35 ls i).f1) := (HS.out.bel.cell (World.block_lt_of_cell? W _ hc1)).trans hc1
              clear hc0 hc1
              have HT0 := HI.out (rd_T35 ls i) (by unfold rd_T35; simp [List.getD_eq_getElem?_getD, hlt])
              have HTK := takeE ls i hlt
              have hmem := atE ls i hlt
              generalize (rd_T35 ls i).f0 = t at *
              generalize (rd_T35 ls i).f1 = a at *
              have HT := Aside0.mk HT0.1
              clear HT0
              have hfl : (free0 ((ls.map toE).take i) (real (ls.map toE))).length ≤ 1000 := by
                unfold free0
                have h1 : (((ls.map toE).take i).filter (fun e => decide (e.1 ≠ e.2) && decide (cnt (real (ls.map toE)) e.1 = 0))).length ≤ ((ls.map toE).take i).length := List.length_filter_le _ _
                rw [List.length_map]
                rw [List.length_take] at h1; omega
              have hf1 : free0 ((ls.map toE).take (i + 1)) (real (ls.map toE)) = free0 ((ls.map toE).take i) (real (ls.map toE)) ++ (if t ≠ a ∧ cnt (real (ls.map toE)) t = 0 then [t] else []) := by
                rw [HTK]; unfold free0
                rw [List.filter_append, List.map_append]
                by_cases h1 : t = a <;> by_cases h2 : cnt (real (ls.map toE)) t = 0 <;> simp [h1, h2]
              have hrn : (keys (real (ls.map toE))).Nodup := by unfold keys real; exact HO.out.1.sublist (List.filter_sublist.map _)
              have hrt : Aside0 ((fR t).getD 0 = (cnt (real (ls.map toE)) t : Int)) := ⟨HRd.out t⟩
              clear HTK
              by_cases h1 : t = a
              · have HK : Aside0 ((val (real (ls.map toE)) t).isSome = false) := ⟨by
                  rw [val_isSome hrn]
                  simp
                  intro hk
                  obtain ⟨b, hb⟩ := mem_keys.1 hk
                  have hb2 := List.mem_filter.1 hb
                  have : b = a := nd_eq HO.out.1 hb2.1 hmem
                  subst this
                  simp at hb2; exact hb2.2 h1⟩
                rw [if_neg (fun h => h.1 h1), List.append_nil] at hf1
                have HF1 := Aside0.mk hf1
                clear hf1 hmem hrn h1
                go_wp2_with (first | ((try (refine gate_guard (by rfl) ?_; dsimp only)); refine cell_load rfl 38 (.tmp 6) rfl Try.underlying38 rfl rfl ((HS.out.alloc _).hF.cell rfl) ?_) | ((try (refine gate_guard (by rfl) ?_; dsimp only)); refine cell_load rfl 38 (.tmp 7) rfl Try.underlying38 rfl rfl ((HS.out.alloc _).hR.cell rfl) ?_) | ((try (refine gate_guard (by rfl) ?_; dsimp only)); refine cell_load rfl 24 (.tmp 15) rfl Try.underlying24 rfl rfl ((HS.out.alloc _).hE.cell rfl) ?_) | (at_lookup; refine MapInt.lookv_ok' Try.underlying3 rfl (.tmp 84) _ 38 rfl Try.underlying38 (zero3 _) rfl (HS.out.alloc _).iF rfl HT.out HKv.out HK.out ?_) | (at_lookup; refine MapInt.lookv_ok Try.underlying3 rfl (.tmp 84) _ 38 rfl Try.underlying38 (zero3 _) rfl (HS.out.alloc _).iF rfl HT.out HK.out ?_) | (at_lookup; (try (refine gate_guard (by rfl) ?_; dsimp only)); refine MapInt.lookv Try.underlying3 rfl (.tmp 98) _ 38 rfl Try.underlying38 (zero3 _) rfl (HS.out.alloc _).iR rfl HT.out hrt.out ?_) | (at_builtin; refine q_app_new_at rfl (.tmp 104) (.tmp 107) 24 3 (.int .i64 0) 1 8 rfl Try.underlying24 info3 rfl (by decide) rfl (HS.out.alloc _).rE _ 1 rfl (by simp) rfl (fun u hu => by simp at hu; subst hu; rfl) (by decide) (by omega) (by omega) (HS.out.alloc _).bel.size ?_; intro v3 w5 ho hg; have n_ := Aside0.mk ((HS.out.alloc _).freed (free' := free0 ((ls.map toE).take i) (real (ls.map toE)) ++ [t]) (by rw [List.length_append, nums_append]; exact ho) hg); clear HS; have HS := n_; clear n_; clear ho hg) | (refine cell_store rfl 24 (.tmp 15) (.tmp 108) rfl oi24 rfl rfl (q_one HS.out.rE) HS.out.hE Nat.zero_lt_one ?_; intro w6 hb6 hg6 hz6; have n_ := Aside0.mk (HS.out.boxE hb6 hg6); clear HS; have HS := n_; clear n_; clear hb6 hg6 hz6))
                go_roundw
                case rel => exact ⟨i + 1, vE, by omega, by go_num, by rw [HF1.out]; exact ⟨HS.out.alloc _⟩⟩
                case measure => simp [intOf]; omega
              · have hva : val (real (ls.map toE)) t = some a := val_some hrn (List.mem_filter.2 ⟨hmem, by simpa using h1⟩)
                have HK : Aside0 ((val (real (ls.map toE)) t).isSome = true) := ⟨by rw [hva]; rfl⟩
                have HKv : Aside0 ((val (real (ls.map toE)) t).getD 0 = a) := ⟨by rw [hva]; rfl⟩
                have h1' : (a == t) = false := by simpa using fun h => h1 h.symm
                have h1'' : (a != t) = true := by simpa using fun h => h1 h.symm
                have hd0 : 0 ≤ (cnt (real (ls.map toE)) t : Int) := by omega
                by_cases h2 : cnt (real (ls.map toE)) t = 0
                · rw [if_pos ⟨h1, h2⟩] at hf1
                  have HF1 := Aside0.mk hf1
                  rw [h2] at hrt
                  clear hf1 hmem hrn h1 hva hd0 h2
                  go_wp2_with (first | ((try (refine gate_guard (by rfl) ?_; dsimp only)); refine cell_load rfl 38 (.tmp 6) rfl Try.underlying38 rfl rfl ((HS.out.alloc _).hF.cell rfl) ?_) | ((try (refine gate_guard (by rfl) ?_; dsimp only)); refine cell_load rfl 38 (.tmp 7) rfl Try.underlying38 rfl rfl ((HS.out.alloc _).hR.cell rfl) ?_) | ((try (refine gate_guard (by rfl) ?_; dsimp only)); refine cell_load rfl 24 (.tmp 15) rfl Try.underlying24 rfl rfl ((HS.out.alloc _).hE.cell rfl) ?_) | (at_lookup; refine MapInt.lookv_ok' Try.underlying3 rfl (.tmp 84) _ 38 rfl Try.underlying38 (zero3 _) rfl (HS.out.alloc _).iF rfl HT.out HKv.out HK.out ?_) | (at_lookup; refine MapInt.lookv_ok Try.underlying3 rfl (.tmp 84) _ 38 rfl Try.underlying38 (zero3 _) rfl (HS.out.alloc _).iF rfl HT.out HK.out ?_) | (at_lookup; (try (refine gate_guard (by rfl) ?_; dsimp only)); refine MapInt.lookv Try.underlying3 rfl (.tmp 98) _ 38 rfl Try.underlying38 (zero3 _) rfl (HS.out.alloc _).iR rfl HT.out hrt.out ?_) | (at_builtin; refine q_app_new_at rfl (.tmp 104) (.tmp 107) 24 3 (.int .i64 0) 1 8 rfl Try.underlying24 info3 rfl (by decide) rfl (HS.out.alloc _).rE _ 1 rfl (by simp) rfl (fun u hu => by simp at hu; subst hu; rfl) (by decide) (by omega) (by omega) (HS.out.alloc _).bel.size ?_; intro v3 w5 ho hg; have n_ := Aside0.mk ((HS.out.alloc _).freed (free' := free0 ((ls.map toE).take i) (real (ls.map toE)) ++ [t]) (by rw [List.length_append, nums_append]; exact ho) hg); clear HS; have HS := n_; clear n_; clear ho hg) | (refine cell_store rfl 24 (.tmp 15) (.tmp 108) rfl oi24 rfl rfl (q_one HS.out.rE) HS.out.hE Nat.zero_lt_one ?_; intro w6 hb6 hg6 hz6; have n_ := Aside0.mk (HS.out.boxE hb6 hg6); clear HS; have HS := n_; clear n_; clear hb6 hg6 hz6))
                  go_roundw
                  case rel => exact ⟨i + 1, _, by omega, by go_num, by rw [HF1.out]; exact HS⟩
                  case measure => simp [intOf]; omega
                · rw [if_neg (fun h => h2 h.2), List.append_nil] at hf1
                  have HF1 := Aside0.mk hf1
                  have h2' : ((cnt (real (ls.map toE)) t : Int) == 0) = false := by simpa using h2
                  generalize (cnt (real (ls.map toE)) t : Int) = d at *
                  clear hf1 hmem hrn h1 hva h2
                  go_wp2_with (first | ((try (refine gate_guard (by rfl) ?_; dsimp only)); refine cell_load rfl 38 (.tmp 6) rfl Try.underlying38 rfl rfl ((HS.out.alloc _).hF.cell rfl) ?_) | ((try (refine gate_guard (by rfl) ?_; dsimp only)); refine cell_load rfl 38 (.tmp 7) rfl Try.underlying38 rfl rfl ((HS.out.alloc _).hR.cell rfl) ?_) | ((try (refine gate_guard (by rfl) ?_; dsimp only)); refine cell_load rfl 24 (.tmp 15) rfl Try.underlying24 rfl rfl ((HS.out.alloc _).hE.cell rfl) ?_) | (at_lookup; refine MapInt.lookv_ok' Try.underlying3 rfl (.tmp 84) _ 38 rfl Try.underlying38 (zero3 _) rfl (HS.out.alloc _).iF rfl HT.out HKv.out HK.out ?_) | (at_lookup; refine MapInt.lookv_ok Try.underlying3 rfl (.tmp 84) _ 38 rfl Try.underlying38 (zero3 _) rfl (HS.out.alloc _).iF rfl HT.out HK.out ?_) | (at_lookup; (try (refine gate_guard (by rfl) ?_; dsimp only)); refine MapInt.lookv Try.underlying3 rfl (.tmp 98) _ 38 rfl Try.underlying38 (zero3 _) rfl (HS.out.alloc _).iR rfl HT.out hrt.out ?_) | (at_builtin; refine q_app_new_at rfl (.tmp 104) (.tmp 107) 24 3 (.int .i64 0) 1 8 rfl Try.underlying24 info3 rfl (by decide) rfl (HS.out.alloc _).rE _ 1 rfl (by simp) rfl (fun u hu => by simp at hu; subst hu; rfl) (by decide) (by omega) (by omega) (HS.out.alloc _).bel.size ?_; intro v3 w5 ho hg; have n_ := Aside0.mk ((HS.out.alloc _).freed (free' := free0 ((ls.map toE).take i) (real (ls.map toE)) ++ [t]) (by rw [List.length_append, nums_append]; exact ho) hg); clear HS; have HS := n_; clear n_; clear ho hg) | (refine cell_store rfl 24 (.tmp 15) (.tmp 108) rfl oi24 rfl rfl (q_one HS.out.rE) HS.out.hE Nat.zero_lt_one ?_; intro w6 hb6 hg6 hz6; have n_ := Aside0.mk (HS.out.boxE hb6 hg6); clear HS; have HS := n_; clear n_; clear hb6 hg6 hz6))
                  go_roundw
                  case rel => exact ⟨i + 1, vE, by omega, by go_num, by rw [HF1.out]; exact ⟨HS.out.alloc _⟩⟩
                  case measure => simp [intOf]; omega
            · have hlt' : ¬ (i : Int) < (ls.length : Int) := by omega
              obtain rfl : i = ls.length := by omega
              rw [show (ls.map toE).take ls.length = ls.map toE from by rw [← List.length_map (f := toE)]; exact List.take_length] at HS
              have HWF := Aside0.mk (start_wf HO.out (all_inR HI.out))
              have hf0 : Aside0 ((free0 (ls.map toE) (real (ls.map toE))).length ≤ 1000) := ⟨by
                have h1 : ((ls.map toE).filter (fun e => decide (e.1 ≠ e.2) && decide (cnt (real (ls.map toE)) e.1 = 0))).length ≤ (ls.map toE).length := List.length_filter_le _ _
                unfold free0; rw [List.length_map]; rw [List.length_map] at h1; omega⟩
              have hrl : Aside0 ((real (ls.map toE)).length ≤ 1000) := ⟨by
                have h1 : (real (ls.map toE)).length ≤ (ls.map toE).length := List.length_filter_le _ _
                rw [List.length_map] at h1; omega⟩
              have HLn : Aside0 ((ls.map toE).length ≤ 1000) := ⟨by rw [List.length_map]; exact hl⟩
              go_wp2_with (first | (go_at_call 14; (with_reducible refine (drain_calls W _ bF bR bO bE mF mR n fR _ _ (real (ls.map toE)).length (real (ls.map toE)) (free0 (ls.map toE) (real (ls.map toE))) [] HS.out HRd.out HWF.out (Nat.le_refl _) (by have := hrl.out; simp; omega) (by have := hrl.out; omega)).mono ?_); rintro e w5 ⟨rfl, n1, fR1, vO1, vE1, ho5, hrd5, hn5⟩; have H4 := Aside0.mk (L4.start (n := n1) HO.out HLn.out (all_inR HI.out) hrd5 (by have := hrl.out; omega)); have n_ := Aside0.mk ho5; clear HS ho5 hrd5 hn5; have HS := n_; clear n_))
              clear hrl hf0 HWF HRd
              go_loopw [115] (fun v115 wr => ∃ (i n : Nat) (rem out : List E) (fR : Int → Option Int) (vO vE : Value), i ≤ ls.length ∧ v115 = .int .i64 i ∧ Aside0 (OSt W wr bF bR bO bE mF mR n (val rem) fR vO vE vO vE [] out) ∧ Aside0 (L4 (ls.map toE) bs i n rem out fR)) (fun v115 _ => ls.length - (intOf v115).toNat)
              case atStart => exact ⟨0, n1, _, _, fR1, vO1, vE1, Nat.zero_le _, rfl, HS, H4⟩
              case round =>
                clear HS H4 n1 fR1 vO1 vE1
                obtain ⟨i, n, rem, out, fR, vO, vE, hi, rfl, HS, H4⟩ := hrel
                by_cases hlt : i < ls.length
                · have hlt' : (i : Int) < (ls.length : Int) := by omega
                  obtain ⟨ad, rfl, hc0, hc1⟩ := at_T35 HR.out (i : Int) (by omega) hlt'
                  rw [Int.toNat_natCast] at hc0 hc1
                  have hx0 : wr.cell? (ad.add (i * 2)) = some (.int .i64 (rd_T35 ls i).f0) := (HS.out.bel.cell (World.block_lt_of_cell? W _ hc0)).trans hc0
                  have hx1 : wr.cell? ⟨(ad.add (i * 2)).block, (ad.add (i * 2)).off + 1, none⟩ = some (.int .i64 (rd_T35 ls i).f1) := (HS.out.bel.cell (World.block_lt_of_cell? W _ hc1)).trans hc1
                  clear hc0 hc1
                  have HT0 := HI.out (rd_T35 ls i) (by unfold rd_T35; simp [List.getD_eq_getElem?_getD, hlt])
                  have HTD := Aside0.mk (dropE ls i hlt)
                  generalize (rd_T35 ls i).f0 = t at *
                  generalize (rd_T35 ls i).f1 = a at *
                  have HT := Aside0.mk HT0.1
                  clear HT0
                  by_cases hin : t ∈ keys rem
                  · have HK : Aside0 ((val rem t).isSome = true) := ⟨by rw [val_isSome H4.out.j.nd]; simpa using hin⟩
                    have HIN := Aside0.mk hin
                    clear hin
                    have hoL : out.length ≤ 3000 := by have := H4.out.l; omega
                    have hnL : Aside0 (n ≤ 20000000) := ⟨by have := H4.out.b; omega⟩
                    go_wp2_with (first | ((try (refine gate_guard (by rfl) ?_; dsimp only)); refine cell_load rfl 38 (.tmp 6) rfl Try.underlying38 rfl rfl ((HS.out.alloc _).hF.cell rfl) ?_) | (at_lookup; refine MapInt.lookv_ok Try.underlying3 rfl (.tmp 120) _ 38 rfl Try.underlying38 (zero3 _) rfl (HS.out.alloc _).iF rfl HT.out HK.out ?_) | ((try (refine gate_guard (by rfl) ?_; dsimp only)); refine cell_load rfl 22 (.tmp 14) rfl Try.underlying22 rfl rfl ((HS.out.alloc _).hO.cell rfl) ?_) | (at_builtin; refine app_new_at rfl (.tmp 128) (.tmp 133) 22 35 (.agg #[.int .i64 0, .int .i64 0]) 2 16 rfl Try.underlying22 oi35 rfl (by decide) rfl (HS.out.alloc _).rO _ 1 rfl (by simp) rfl (fun u hu => by simp at hu; rcases hu with rfl | rfl <;> rfl) (by omega) (by omega) (HS.out.alloc _).bel.size ?_; intro v3 w5 ho hg; have HM := Aside0.mk (m_kept HS.out hg); have n_ := Aside0.mk ((HS.out.alloc _).made (out' := out ++ [(bs, t)]) (by rw [List.length_append, cellsE_app]; exact ho) hg); clear HS; have HS := n_; clear n_; clear ho hg) | (refine cell_store rfl 22 (.tmp 14) (.tmp 134) rfl oi22 rfl rfl (own_one HS.out.rO) HS.out.hO Nat.zero_lt_one ?_; intro w6 hb6 hg6 hz6; have m_ := Aside0.mk (HM.out.kept hg6 (fun e => HM.out.ne_type HS.out.hO (by decide) (by injection e))); clear HM; have HM := m_; clear m_; have n_ := Aside0.mk (HS.out.boxO hb6 hg6); clear HS; have HS := n_; clear n_; clear hb6 hg6 hz6) | ((try (refine gate_guard (by rfl) ?_; dsimp only)); refine cell_load rfl 38 (.tmp 6) rfl Try.underlying38 rfl rfl (HS.out.hF.cell rfl) ?_) | (at_range; refine MapInt.rng Try.underlying3 rfl (.tmp 135) 38 rfl Try.underlying38 rfl HS.out.iF ?_; intro w7 hrg hg7 hz7; have HP0 := Aside0.mk (ORg.start HS.out HM.out hrg hg7 (left' := fun x => decide (x ∈ keys rem)) (by funext y; exact (val_isSome H4.out.j.nd).symm)); clear HS HM hrg hg7))
                    obtain ⟨cn, hp⟩ := HP0.out
                    have HP := Aside0.mk hp
                    clear HP0 hp
                    generalize w6.heap.size = r at *
                    generalize wr.heap.size = gM at *
                    have hbt : bs ≠ t := fun e => H4.out.j.bk (e ▸ H4.out.j.sub t HIN.out)
                    have HBT := Aside0.mk hbt
                    clear hbt
                    go_loopg [] rem.length (fun k w3 => ∃ (ks : List Int) (n2 cn : Nat) (fR2 : Int → Option Int), Aside0 (ORg W w3 bF bR bO bE mF mR n2 r cn gM #[.int .i64 t, .int .i64 a] (val (curF bs t rem ks)) fR2 v3 vE [] (out ++ [(bs, t)]) (fun x => decide (x ∈ ks))) ∧ Aside0 (ks.length = k ∧ ks.Nodup ∧ (∀ x ∈ ks, x ∈ keys rem) ∧ (∀ y, (fR2 y).getD 0 = (cnt (curF bs t rem ks) y : Int)) ∧ n2 + 2 * k ≤ n + 2 * rem.length))
                    case atStart => exact ⟨keys rem, n, cn, fR, by rw [curF_all]; exact HP, ⟨by simp [keys], H4.out.j.nd, fun _ h => h, by rw [curF_all]; exact H4.out.c, Nat.le_refl _⟩⟩
                    case round =>
                      clear HP cn
                      obtain ⟨ks, n2, cn, fR2, HP, HK2⟩ := hrel
                      have hmc := HP.out.hM.cell (o := 0) rfl
                      have hn2 : n2 ≤ 20003000 := by have := HK2.out.2.2.2.2; have := hnL.out; have := H4.out.l; omega
                      go_wp2_with (first | (at_next; refine MapInt.nxt Try.underlying3 rfl (.tmp 136) rfl rfl HP.out.rg ?_ ?_))
                      · intro h0
                        have hks : ks = [] := List.eq_nil_iff_forall_not_mem.2 fun x hx => by
                          obtain ⟨b, hb⟩ := mem_keys.1 (HK2.out.2.2.1 x hx)
                          have := h0 x (H4.out.r _ hb).1
                          simp [hx] at this
                        subst hks
                        have HRd := Aside0.mk HK2.out.2.2.2.1
                        rw [curF_nil] at HRd HP
                        have HS := Aside0.mk HP.out.st
                        have hnn := HK2.out.2.2.2.2
                        have HL4 := Aside0.mk H4.out.l
                        have HTL := Aside0.mk (turn_len bs t rem)
                        have HNN := Aside0.mk hnn
                        clear HK2 h0 HP hnn
                        go_wp2_with (first | ((try (refine gate_guard (by rfl) ?_; dsimp only)); refine cell_load rfl 24 (.tmp 15) rfl Try.underlying24 rfl rfl (HS.out.hE.cell rfl) ?_) | (at_builtin; refine q_app_new_at rfl (.tmp 158) (.tmp 161) 24 3 (.int .i64 0) 1 8 rfl Try.underlying24 info3 rfl (by decide) rfl HS.out.rE _ 1 rfl (by first | rfl | simp) rfl (fun u hu => by simp at hu; subst hu; rfl) (by decide) (by simp) (by simp) HS.out.bel.size ?_; intro v4 w9 ho hg; have n_ := Aside0.mk (HS.out.freed (free' := [t]) (by exact ho) hg); clear HS; have HS := n_; clear n_; clear ho hg) | (refine cell_store rfl 24 (.tmp 15) (.tmp 162) rfl oi24 rfl rfl (q_one HS.out.rE) HS.out.hE Nat.zero_lt_one ?_; intro w6 hb6 hg6 hz6; have n_ := Aside0.mk (HS.out.boxE hb6 hg6); clear HS; have HS := n_; clear n_; clear hb6 hg6 hz6) | (go_at_call 14; (with_reducible refine (drain_calls W _ bF bR bO bE mF mR n2 fR2 _ _ rem.length (turn bs t rem) [t] (out ++ [(bs, t)]) HS.out HRd.out (H4.out.wf HBS.out HIN.out) (by have := HTL.out; omega) (by have := HL4.out; have := HTL.out; simp; omega) (by have := HL4.out; have := HTL.out; omega)).mono ?_); rintro e w5 ⟨rfl, n5, fR5, vO5, vE5, ho5, hrd5, hn5⟩; have H5 := Aside0.mk (H4.out.broke (n' := n5) HTD.out HBS.out HIN.out hrd5 (by have := HTL.out; have := HNN.out; omega)); have n_ := Aside0.mk ho5; clear HS ho5 hrd5 hn5; have HS := n_; clear n_))
                        go_roundw
                        case rel => exact ⟨i + 1, n5, _, _, fR5, vO5, vE5, by omega, by go_num, HS, H5⟩
                        case measure => simp [intOf]; omega
                      · intro x c w8 cn' hx hlx hf hrg hlt8 hg8 hs8 hen
                        have HP2 := Aside0.mk (HP.out.next hrg hg8)
                        clear HP hrg hg8 hs8 hlt8 hmc
                        have hmc := HP2.out.hM.cell (o := 0) rfl
                        have hxk : x ∈ ks := by simpa using hlx
                        have hvm := val_mem hf
                        have hm0 := curF_mem hxk hvm
                        have hwk := without_len HK2.out.2.1 hxk
                        have HX := Aside0.mk hx
                        have HCn : Aside0 (cnt (curF bs t rem ks) bs ≤ 1000 ∧ cnt (curF bs t rem ks) t ≤ 1000) := ⟨by
                          have h1 := cnt_le (curF bs t rem ks) bs
                          have h2 := cnt_le (curF bs t rem ks) t
                          have h3 : (curF bs t rem ks).length = rem.length := by unfold curF; simp
                          have := H4.out.l
                          omega⟩
                        rw [left_without] at HP2
                        have HW := Aside0.mk hwk
                        clear hlx hx hwk
                        by_cases hct : c = t
                        · have hct' : (c == t) = true := by simpa using hct
                          rw [hct] at hm0 hf hvm
                          have hcn : (curF bs t rem ks |> keys).Nodup := by show (keys (curF bs t rem ks)).Nodup; rw [curF_keys]; exact H4.out.j.nd
                          have hpt := curF_put (bs := bs) (t := t) (ks := ks) H4.out.j.nd hm0
                          have HV : Aside0 (val (curF bs t rem (without ks x)) = upd (val (curF bs t rem ks)) x bs) := ⟨by rw [hpt]; exact put_val hvm⟩
                          have hr1 : Aside0 ((fR2 bs).getD 0 = (cnt (curF bs t rem ks) bs : Int)) := ⟨HK2.out.2.2.2.1 bs⟩
                          have hr2 : Aside0 ((upd fR2 bs ((cnt (curF bs t rem ks) bs : Int) + 1) t).getD 0 = (cnt (curF bs t rem ks) t : Int)) := ⟨by unfold upd; rw [if_neg (fun e => HBT.out e.symm)]; exact HK2.out.2.2.2.1 t⟩
                          have HI2 := Aside0.mk (cnt_two (bs := bs) (t := t) HK2.out.2.2.2.1 (B := curF bs t rem (without ks x)) (by intro y; rw [hpt]; exact put_cnt hcn hvm y) HBT.out rfl rfl)
                          have hin2 : Aside0 ((val (curF bs t rem ks) x).isSome = true) := ⟨by rw [hf]; rfl⟩
                          have hb1 : (cnt (curF bs t rem ks) bs : Int) ≤ 1000 := by have := HCn.out; omega
                          have hb2 : (cnt (curF bs t rem ks) t : Int) ≤ 1000 := by have := HCn.out; omega
                          have hb3 : 0 ≤ (cnt (curF bs t rem ks) bs : Int) := by omega
                          have hb4 : 0 ≤ (cnt (curF bs t rem ks) t : Int) := by omega
                          clear HCn
                          generalize (cnt (curF bs t rem ks) bs : Int) = d1 at *
                          generalize (cnt (curF bs t rem ks) t : Int) = d2 at *
                          clear hct hm0 hf hvm hcn hpt hxk
                          go_wp2_with (first | ((try (refine gate_guard (by rfl) ?_; dsimp only)); refine cell_load rfl 38 (.tmp 6) rfl Try.underlying38 rfl rfl (HP2.out.st.hF.cell rfl) ?_) | ((try (refine gate_guard (by rfl) ?_; dsimp only)); refine cell_load rfl 38 (.tmp 7) rfl Try.underlying38 rfl rfl (HP2.out.st.hR.cell rfl) ?_) | ((try (refine gate_guard (by rfl) ?_; dsimp only)); refine cell_load rfl 3 (.tmp 154) rfl Try.underlying3 rfl rfl (HP2.out.hM.cell rfl) ?_) | ((try (refine gate_guard (by rfl) ?_; dsimp only)); refine cell_load rfl 3 (.tmp 144) rfl Try.underlying3 rfl rfl (HP2.out.hM.cell rfl) ?_) | (at_mapUpdate; refine MapInt.rstore Try.underlying3 rfl (.tmp 146) _ _ 38 rfl Try.underlying38 rfl HP2.out.rg (by omega) (kx := x) (vx := bs) rfl rfl HX.out HBS.out hin2.out ?_; intro w9 hrg9 hg9 hs9; have n_ := Aside0.mk (HP2.out.set hrg9 hg9); clear HP2; have HP2 := n_; clear n_; clear hrg9 hg9 hs9) | (at_lookup; refine MapInt.lookv Try.underlying3 rfl (.tmp 149) _ 38 rfl Try.underlying38 (zero3 _) rfl HP2.out.st.iR rfl HBS.out hr1.out ?_) | (at_mapUpdate; refine MapInt.store Try.underlying3 rfl (.tmp 149) _ _ 38 rfl Try.underlying38 rfl HP2.out.st.iR (by omega) (kx := bs) (vx := d1 + 1) rfl (by go_num) HBS.out (by unfold inR; omega) ?_; intro w9 hm9 hg9 hs9; have n_ := Aside0.mk (HP2.out.count hm9 hg9 (Nat.le_succ _)); clear HP2; have HP2 := n_; clear n_; clear hm9 hg9 hs9) | (at_lookup; refine MapInt.lookv Try.underlying3 rfl (.tmp 153) _ 38 rfl Try.underlying38 (zero3 _) rfl HP2.out.st.iR rfl HT.out hr2.out ?_) | (at_mapUpdate; refine MapInt.store Try.underlying3 rfl (.tmp 153) _ _ 38 rfl Try.underlying38 rfl HP2.out.st.iR (by omega) (kx := t) (vx := d2 - 1) rfl (by go_num) HT.out (by unfold inR; omega) ?_; intro w9 hm9 hg9 hs9; have n_ := Aside0.mk (HP2.out.count hm9 hg9 (Nat.le_succ _)); clear HP2; have HP2 := n_; clear n_; clear hm9 hg9 hs9))
                          go_roundg (gk - 1)
                          case measure => have := HW.out; have := HK2.out.1; omega
                          case rel => exact ⟨without ks x, n2 + 1 + 1, cn', _, by rw [HV.out]; exact HP2, ⟨by have := HW.out; have := HK2.out.1; omega, without_nd HK2.out.2.1 x, fun z hz => HK2.out.2.2.1 z (mem_without.1 hz).1, HI2.out, by have := HK2.out.2.2.2.2; have := HW.out; have := HK2.out.1; omega⟩⟩
                        · have hct' : (c == t) = false := by simpa using hct
                          have HO2 := Aside0.mk (curF_other (bs := bs) (ks := ks) H4.out.j.nd hm0 hct)
                          clear hct hm0 hf hvm hxk HCn
                          go_wp2_with fail
                          go_roundg (gk - 1)
                          case measure => have := HW.out; have := HK2.out.1; omega
                          case rel => exact ⟨without ks x, n2, cn', fR2, by rw [HO2.out]; exact HP2, ⟨by have := HW.out; have := HK2.out.1; omega, without_nd HK2.out.2.1 x, fun z hz => HK2.out.2.2.1 z (mem_without.1 hz).1, by rw [HO2.out]; exact HK2.out.2.2.2.1, by have := HK2.out.2.2.2.2; have := HW.out; have := HK2.out.1; omega⟩⟩
                  · have HK : Aside0 ((val rem t).isSome = false) := ⟨by rw [val_isSome H4.out.j.nd]; simpa using hin⟩
                    have H5 := Aside0.mk (H4.out.skip HTD.out hin)
                    clear hin
                    go_wp2_with (first | ((try (refine gate_guard (by rfl) ?_; dsimp only)); refine cell_load rfl 38 (.tmp 6) rfl Try.underlying38 rfl rfl ((HS.out.alloc _).hF.cell rfl) ?_) | (at_lookup; refine MapInt.lookv_ok Try.underlying3 rfl (.tmp 120) _ 38 rfl Try.underlying38 (zero3 _) rfl (HS.out.alloc _).iF rfl HT.out HK.out ?_))
                    go_roundw
                    case rel => exact ⟨i + 1, n, rem, out, fR, vO, vE, by omega, by go_num, ⟨HS.out.alloc _⟩, H5⟩
                    case measure => simp [intOf]; omega
                · have hlt' : ¬ (i : Int) < (ls.length : Int) := by omega
                  obtain rfl : i = ls.length := by omega
                  have HD := Aside0.mk (H4.out.done (by rw [List.length_map]; exact Nat.le_refl _))
                  go_wp2_with (first | ((try (refine gate_guard (by rfl) ?_; dsimp only)); refine cell_load rfl 22 (.tmp 14) rfl Try.underlying22 rfl rfl (HS.out.hO.cell rfl) ?_))
                  (try go_ret2)
                  rw [← HQ.out]
                  refine ⟨HS.out.bel, .inr ⟨HO.out, vO, rfl, ?_⟩⟩
                  rw [← HD.out]; exact HS.out.rO
        · intro x c w4 cn' hx hlx hf hrg hlt4 hg4 hs4 hen
          have HP2 := Aside0.mk (HP.out.next hrg hg4)
          clear HP hrg hg4 hs4 hlt4
          have hxk : x ∈ ks := by simpa using hlx
          have hm0 := stillF_mem (val_mem hf)
          have hwk := without_len HK.out.2.1 hxk
          obtain ⟨y0, hy0, hye⟩ := List.mem_map.1 hm0
          have hcR : inR c := by
            have := (HI.out y0 hy0).2
            rw [show y0.f1 = c from congrArg Prod.snd hye] at this; exact this
          clear hlx hf hye hy0 y0
          have HX := Aside0.mk hx
          have HC := Aside0.mk hcR
          clear hx hcR
          by_cases hxc : x = c
          · subst hxc
            have HV := Aside0.mk (stillF_self (ks := ks) HO.out.1 hm0)
            have HPf := HP2
            clear hxk hm0
            rw [left_without] at HP2
            clear HPf
            have HW := Aside0.mk hwk
            clear hwk
            go_wp2_with (first | (refine cell_load rfl 38 (.tmp 6) rfl Try.underlying38 rfl rfl (HP2.out.st.hF.cell rfl) ?_) | (at_delete; refine MapInt.rdrop Try.underlying3 rfl (.tmp 71) _ 38 rfl Try.underlying38 rfl HP2.out.rg rfl HX.out ?_; intro w5 cn5 hrg5 hle5 hg5 hs5; have n_ := Aside0.mk (HP2.out.drop hrg5 hg5); clear HP2; have HP2 := n_; clear n_ hrg5 hle5 hg5 hs5))
            go_roundg (gk - 1)
            case measure => have := HW.out; have := HK.out.1; omega
            case rel =>
              rw [left_without2] at HP2
              refine ⟨without ks x, n, cn5, fR, ?_, ⟨by have := HW.out; have := HK.out.1; omega, without_nd HK.out.2.1 x, fun z hz => HK.out.2.2.1 z (mem_without.1 hz).1, fun y => by rw [HV.out.2]; exact HK.out.2.2.2.1 y, by have := HK.out.2.2.2.2; omega⟩⟩
              rw [HV.out.1, val_rid]; exact HP2
          · have HV := Aside0.mk (stillF_other HO.out.1 hm0 hxc hxk)
            have hrd : Aside0 ((fR c).getD 0 = (cnt (doneF (ls.map toE) ks) c : Int)) := ⟨HK.out.2.2.2.1 c⟩
            have hdl : (cnt (doneF (ls.map toE) ks) c : Int) ≤ 1000 := by
              have h1 := cnt_le (doneF (ls.map toE) ks) c
              have h2 : (doneF (ls.map toE) ks).length ≤ (ls.map toE).length := List.length_filter_le _ _
              rw [List.length_map] at h2; omega
            have hd0 : 0 ≤ (cnt (doneF (ls.map toE) ks) c : Int) := by omega
            have hnn : n ≤ 2000 := by have := HK.out.2.2.2.2; omega
            have HIN := Aside0.mk (cnt_inc (c := c) (v := (cnt (doneF (ls.map toE) ks) c : Int) + 1) HK.out.2.2.2.1 HV.out.2 rfl)
            generalize (cnt (doneF (ls.map toE) ks) c : Int) = d at *
            have hxc' : (x == c) = false := by simpa using hxc
            rw [left_without] at HP2
            have HW := Aside0.mk hwk
            clear hwk hxk hm0 hxc
            go_wp2_with (first | (refine cell_load rfl 38 (.tmp 7) rfl Try.underlying38 rfl rfl (HP2.out.st.hR.cell rfl) ?_) | (at_lookup; refine MapInt.lookv Try.underlying3 rfl (.tmp 73) _ 38 rfl Try.underlying38 (zero3 _) rfl HP2.out.st.iR rfl HC.out hrd.out ?_) | (at_mapUpdate; refine MapInt.store Try.underlying3 rfl (.tmp 73) _ _ 38 rfl Try.underlying38 rfl HP2.out.st.iR (by omega) (kx := c) (vx := d + 1) rfl (by go_num) HC.out (by unfold inR; omega) ?_; intro w5 hm5 hg5 hs5; have n_ := Aside0.mk (HP2.out.count hm5 hg5 (Nat.le_succ _)); clear HP2; have HP2 := n_; clear n_ hm5 hg5 hs5))
            go_roundg (gk - 1)
            case measure => have := HW.out; have := HK.out.1; omega
            case rel =>
              refine ⟨without ks x, n + 1, cn', _, ?_, ⟨by have := HW.out; have := HK.out.1; omega, without_nd HK.out.2.1 x, fun z hz => HK.out.2.2.1 z (mem_without.1 hz).1, HIN.out, by have := HK.out.2.2.2.2; have := HW.out; have := HK.out.1; omega⟩⟩
              rw [HV.out.1]; exact HP2
end Go.Proofs.Ytjolnfhgiddafaa.PAll
