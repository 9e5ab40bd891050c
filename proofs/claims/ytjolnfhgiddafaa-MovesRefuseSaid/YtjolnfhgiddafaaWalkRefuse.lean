/-
  The walk of the law MovesRefuse.
-/
import Derived.Test.YtjolnfhgiddafaaTurnPure
import Derived.Deep.RegionLawGrows
import Derived.Deep.Slices
namespace Go.Proofs.Ytjolnfhgiddafaa.PAll
open Go.RowKit Go.Proofs.YtjolnfhgiddafaaW.PrintWords Go.Proofs.YtjolnfhgiddafaaW.PrintLast Go.Proofs.YtjolnfhgiddafaaW.PrintMore
open Go.Proofs.Ytjolnfhgiddafaa.MapInt Go.Proofs.Ytjolnfhgiddafaa.Moves
set_option linter.unusedVariables false
set_option linter.unusedSimpArgs false
theorem cellsE_at : ∀ (l : List E) (i : Nat), i < l.length → (cellsE l)[i * 2]? = some (.int .i64 (l.getD i (0, 0)).1) ∧ (cellsE l)[i * 2 + 1]? = some (.int .i64 (l.getD i (0, 0)).2)
  | e :: l, 0, _ => ⟨rfl, rfl⟩
  | e :: l, i + 1, h => by
    have := cellsE_at l i (by simpa using h)
    rw [show (i + 1) * 2 = i * 2 + 2 by omega, show i * 2 + 2 + 1 = i * 2 + 1 + 2 by omega]
    exact this
theorem cellsE_len (l : List E) : (cellsE l).length = l.length * 2 := by
  induction l with
  | nil => rfl
  | cons e l ih =>
    have : cellsE (e :: l) = .int .i64 e.1 :: .int .i64 e.2 :: cellsE l := rfl
    rw [this]; simp [ih]; omega
theorem C_cells {w : World} {A : Option Addr} {ls : List S35} (h : Kd.C k35 w A ls.length ls) : ∀ b, A = some b → ∀ j u, (cellsE (ls.map toE))[j]? = some u → w.cell? (b.add j) = some u := by
  intro b hb j u hj
  have hjl : j < ls.length * 2 := by
    have h1 := (List.getElem?_eq_some_iff.1 hj).1
    rw [cellsE_len, List.length_map] at h1; exact h1
  obtain ⟨i, hi⟩ : ∃ i, i = j / 2 := ⟨_, rfl⟩
  have hil : i < ls.length := by omega
  obtain ⟨ad, e, c0, c1⟩ := at_T35 h (i : Int) (by omega) (by omega)
  rw [hb] at e; injection e with e; subst e
  rw [Int.toNat_natCast] at c0 c1
  obtain ⟨a0, a1⟩ := cellsE_at (ls.map toE) i (by rw [List.length_map]; exact hil)
  have hgd : (ls.map toE).getD i (0, 0) = toE (rd_T35 ls i) := by unfold rd_T35; simp [List.getD_eq_getElem?_getD, hil]
  rw [hgd] at a0 a1
  rcases Nat.mod_two_eq_zero_or_one j with h0 | h0
  · have hj2 : j = i * 2 := by omega
    subst hj2; rw [a0] at hj; injection hj with hj; subst hj; exact c0
  · have hj2 : j = i * 2 + 1 := by omega
    subst hj2; rw [a1] at hj; injection hj with hj; subst hj
    rw [← Go.Deep.add_add]
    exact c1
theorem order_refused (A0 : Option Addr) (c0 n : Nat) (l : List S35) (bs : Int) (w : World) (hn : n = l.length) (hr0 : Kd.C k35 w A0 l.length l) (hc0 : l.length ≤ c0) (hl : l.length ≤ 1000) (hi : ∀ x ∈ l, inR x.f0 ∧ inR x.f1) (hb : inR bs) (hno : ¬ OkL (l.map toE) bs) :
    Calls Try.prog 10 #[.slice A0 n c0, .int .i64 bs] w fun e w' => ∃ v : Value, e = .returned (.tuple #[v, .int .i64 1]) ∧ Below w.heap.size w w' := by
  subst hn
  refine (moves_Order.calls A0 c0 l bs [] 1 w hr0 hc0 (order_no hl hi hb hno)).mono ?_
  rintro e w' ⟨v, rfl, _, hb⟩
  exact ⟨v, rfl, hb⟩
theorem new_cells (w : World) (x y : Value) (e : TypeId) : ∀ j u, [x, y][j]? = some u → ((w.alloc (.cells #[x, y] e)).drew).cell? ((⟨w.heap.size, 0, none⟩ : Addr).add j) = some u := by
  intro j u hu
  have hadd : ∀ j : Nat, (⟨w.heap.size, 0, none⟩ : Addr).add j = ⟨w.heap.size, j, none⟩ := by
    intro j
    unfold Addr.add
    split
    · rename_i h; subst h; rfl
    · simp
  rw [hadd]
  show (w.alloc (.cells #[x, y] e)).cell? _ = _
  simp [World.cell?, World.alloc, -World.alloc_eq]
  simpa using hu
theorem grown_below {B : Nat} {W w w2 : World} (h : Below B W w) (hB : B ≤ w.heap.size) (hg : w.grownBy w2 none) : Below B W w2 := h.grown hg hB (fun k hk => by cases hk)
set_option maxHeartbeats 16000000 in
set_option maxRecDepth 100000 in
theorem refuse_x (A0 : Option Addr) (c0 : Nat) (ls : List S35) (bs : Int) (W : World) (hr0 : Kd.C k35 W A0 ls.length ls) (hc : ls.length ≤ c0) (hr : ∀ x ∈ ls, inR x.f0 ∧ inR x.f1) (hb : inR bs) (hl : ls.length ≤ 200) :
    Calls Try.prog 7 #[.slice A0 ls.length c0, .int .i64 bs] W fun e w' => e = .returned (.bool true) ∧ Below W.heap.size W w' := by
  have HB := Aside0.mk (Below.refl W.heap.size W)
  have HR := Aside0.mk hr0
  have HC := Aside0.mk hc
  have HI := Aside0.mk hr
  have HBS := Aside0.mk hb
  have HPE := Aside0.mk (parts_eval ls (by omega) 2000 (by decide))
  have HWE := Aside0.mk (wrong_eval ls bs (by omega) 2000000 (by decide))
  have hl' : (ls.length : Int) ≤ 200 := by omega
  obtain ⟨tos, htos⟩ : ∃ t, t = ls.map (·.f0) := ⟨_, rfl⟩
  obtain ⟨frs, hfrs⟩ : ∃ t, t = ls.map (·.f1) := ⟨_, rfl⟩
  rw [← htos, ← hfrs] at HPE HWE
  have HTO := Aside0.mk htos
  have HFR := Aside0.mk hfrs
  have htl : tos.length ≤ 200 := by rw [htos, List.length_map]; exact hl
  have htl' : (tos.length : Int) ≤ 200 := by omega
  have HLN : Aside0 (tos.length = ls.length ∧ frs.length = ls.length) := ⟨by rw [htos, hfrs, List.length_map, List.length_map]; exact ⟨rfl, rfl⟩⟩
  clear htos hfrs
  have HHE := Aside0.mk holds_eval
  clear hr0 hc hr hb
  have hmk := @run_makeMap Try.prog
  by_cases hok : OkL (ls.map toE) bs
  · have HOK := Aside0.mk hok
    rw [show (!decide (OkL (ls.map toE) bs)) = false by simp [hok]] at HWE
    clear hok
    obtain ⟨outs, houts⟩ : ∃ o, o = (orderF bs (ls.map toE)).map ofE := ⟨_, rfl⟩
    have HOE : Aside0 (moves_Order.f ls bs = some (outs, 0)) := ⟨by rw [houts]; exact order_ok (by omega) HI.out HBS.out HOK.out⟩
    go_enter Try.func7, Try.ntmps7
    by_cases hz : 0 < ls.length
    · have hz1 : (0 : Int) < (ls.length : Int) := by omega
      obtain ⟨adR, rfl, hq0, hq1⟩ := at_T35 HR.out 0 (by omega) hz1
      have hmem : rd_T35 ls 0 ∈ ls := by unfold rd_T35; simp [List.getD_eq_getElem?_getD, hz]
      have HNO : Aside0 (¬ OkL ((ls ++ [rd_T35 ls 0]).map toE) bs) := ⟨fun h => by
        have h1 := h.1
        unfold keys at h1
        rw [List.map_append, List.map_append, List.nodup_append] at h1
        exact h1.2.2 _ (List.mem_map.2 ⟨_, List.mem_map.2 ⟨_, hmem, rfl⟩, rfl⟩) _ (by simp) rfl⟩
      have HNT : Aside0 (¬ OkL (ls.map toE) (rd_T35 ls 0).f0) := ⟨fun h => (h.2 _ (List.mem_map.2 ⟨_, hmem, rfl⟩)).1 rfl⟩
      have HNF : Aside0 (¬ OkL (ls.map toE) (rd_T35 ls 0).f1) := ⟨fun h => (h.2 _ (List.mem_map.2 ⟨_, hmem, rfl⟩)).2 rfl⟩
      have HIX := Aside0.mk (HI.out _ hmem)
      have HIA : Aside0 (∀ x ∈ ls ++ [rd_T35 ls 0], inR x.f0 ∧ inR x.f1) := ⟨fun x hx => by
        rcases List.mem_append.1 hx with h | h
        · exact HI.out x h
        · simp at h; subst h; exact HI.out _ hmem⟩
      have HCE : Aside0 (cellsE ((ls ++ [rd_T35 ls 0]).map toE) = cellsE (ls.map toE) ++ [.int .i64 (rd_T35 ls 0).f0, .int .i64 (rd_T35 ls 0).f1]) := ⟨by rw [List.map_append, cellsE_app]; rfl⟩
      clear hmem
      have HQ0 := Aside0.mk (fun w (h : Below W.heap.size W w) => (at_T35 (Kd.C_below HR.out h) 0 (by omega) hz1))
      clear hq0 hq1
      have HCC := Aside0.mk (fun w (h : Below W.heap.size W w) => C_cells (Kd.C_below HR.out h))
      generalize hl0 : rd_T35 ls 0 = l0 at *
      obtain ⟨t0, a0⟩ := l0
      have hle1 : (ls.length : Int) ≤ (ls.length : Int) := Int.le_refl _
      go_wp2_with (first | (go_at_call 8; (with_reducible refine (regletlaw18_holds.calls true _ HHE.out).mono ?_); rintro e w1 ⟨rfl, hb1⟩; have n_ := Aside0.mk (below_step HB.out hb1); clear HB hb1; have HB := n_; clear n_) | (go_at_call 9; (with_reducible refine (regletlaw18_parts.calls 2000 _ _ ls _ _ _ (Kd.C_below HR.out HB.out) HC.out HPE.out).mono ?_); rintro e w2 ⟨v5, v6, rfl, h5, h6, hb2⟩; obtain ⟨A5, c5, e5⟩ := Kd.R_slice h5; obtain ⟨A6, c6, e6⟩ := Kd.R_slice h6; subst e5; subst e6; have H5 := Aside0.mk (Kd.R_reads' h5).2.2; have H6 := Aside0.mk (Kd.R_reads' h6).2.2; have H5c := Aside0.mk (Kd.R_reads' h5).2.1; have H6c := Aside0.mk (Kd.R_reads' h6).2.1; have n_ := Aside0.mk (below_step HB.out hb2); clear HB hb2 h5 h6; have HB := n_; clear n_) | (go_at_call 10; (with_reducible refine (moves_Order.calls _ _ ls bs outs 0 _ (Kd.C_below HR.out HB.out) HC.out HOE.out).mono ?_); rintro e w5 ⟨v9, rfl, h9, hb9⟩; obtain ⟨A9, c9, e9⟩ := Kd.R_slice h9; subst e9; have H9 := Aside0.mk (Kd.R_reads' h9).2.2; have n_ := Aside0.mk (Kd.C_below H5.out hb9); clear H5; have H5 := n_; clear n_; have n_ := Aside0.mk (Kd.C_below H6.out hb9); clear H6; have H6 := n_; clear n_; have n_ := Aside0.mk (below_step HB.out hb9); clear HB h9 hb9; have HB := n_; clear n_) | (go_at_call 11; (with_reducible refine (regletref18_Wrong.calls 2000000 _ _ _ _ _ _ bs _ _ H5.out H5c.out H6.out H6c.out HWE.out).mono ?_); rintro e w3 ⟨rfl, hd⟩; have HD := Aside0.mk (drawn0_below hd); clear hd; have n_ := Aside0.mk (Kd.C_below H5.out HD.out); clear H5; have H5 := n_; clear n_; have n_ := Aside0.mk (Kd.C_below H6.out HD.out); clear H6; have H6 := n_; clear n_; have n_ := Aside0.mk (Kd.C_below H9.out HD.out); clear H9; have H9 := n_; clear n_; have n_ := Aside0.mk (below_step HB.out HD.out); clear HB HD; have HB := n_; clear n_))
      obtain ⟨i35, ii1, ii2, ii3, ii4⟩ := info_split info35
      have HQ1 : Aside0 (∀ w, Below W.heap.size W w → w.cell? adR = some (.int .i64 t0) ∧ w.cell? ⟨adR.block, adR.off + 1, none⟩ = some (.int .i64 a0)) := ⟨fun w h => by
        obtain ⟨adq, eq_, hq0, hq1⟩ := HQ0.out _ h
        injection eq_ with eq_; subst eq_
        simp at hq0 hq1
        have hadd0 : adR.add 0 = adR := by first | exact Addr.add_zero _ | (unfold Addr.add; simp)
        rw [hadd0] at hq0 hq1
        exact ⟨hq0, hq1⟩⟩
      clear HQ0
      obtain ⟨hq0, hq1⟩ := HQ1.out _ HB.out
      have hlc : ls.length ≤ c0 := HC.out
      clear houts HOE
      have HBX := Aside0.mk (fun o => (HB.out.alloc HB.out.size o).drew)
      have HCX := Aside0.mk (fun o => HCC.out _ (HBX.out o))
      go_region_law (first | (refine step_append_grows rfl (.tmp 51) (.tmp 55) 22 rfl 35 i35 _ 2 16 Try.underlying22 ii1 ii2 ii3 ii4 rfl (by decide) (some adR) ls.length ls.length (cellsE (ls.map toE)) rfl (fun h => by cases h) (by rw [cellsE_len, List.length_map]) (HCX.out _) ⟨_, 0, none⟩ 1 1 [.int .i64 t0, .int .i64 a0] rfl rfl (new_cells _ _ _ _) (fun u hu => by simp at hu; rcases hu with rfl | rfl <;> rfl) (by omega) (by unfold maxLen; omega) (by omega) ?_; intro v' w' ho hg; obtain ⟨A', c', rfl⟩ := MapInt.own_slice' ho; have HX := Aside0.mk (own_C (l := ls ++ [⟨t0, a0⟩]) (HCE.out ▸ ho) (by simp)); have n_ := Aside0.mk (grown_below (HBX.out _) (HBX.out _).size hg); clear HB ho hg; have HB := n_; clear n_) | (go_simp; go_wp2_with (go_at_call 10; (with_reducible refine (order_refused A' c' (ls.length + 1) (ls ++ [⟨t0, a0⟩]) bs _ (by simp) HX.out.2.2 HX.out.2.1 (by simp; omega) HIA.out HBS.out HNO.out).mono ?_); rintro e w7 ⟨v7, rfl, hb7⟩; have n_ := Aside0.mk (below_step HB.out hb7); clear HB HX hb7; have HB := n_; clear n_)))
      all_goals
        clear hq0 hq1
        have hq0 := (HQ1.out _ HB.out).1
        have hq1 := (HQ1.out _ HB.out).2
        go_wp2_with (first | (go_at_call 10; (with_reducible refine (order_refused (some adR) c0 ls.length ls t0 _ rfl (Kd.C_below HR.out HB.out) HC.out (by omega) HI.out HIX.out.1 HNT.out).mono ?_); rintro e w8 ⟨v8, rfl, hb8⟩; have n_ := Aside0.mk (below_step HB.out hb8); clear HB hb8 hq0 hq1; have HB := n_; clear n_; have hq0 := (HQ1.out _ HB.out).1; have hq1 := (HQ1.out _ HB.out).2) | (go_at_call 10; (with_reducible refine (order_refused (some adR) c0 ls.length ls a0 _ rfl (Kd.C_below HR.out HB.out) HC.out (by omega) HI.out HIX.out.2 HNF.out).mono ?_); rintro e w8 ⟨v8, rfl, hb8⟩; have n_ := Aside0.mk (below_step HB.out hb8); clear HB hb8 hq0 hq1; have HB := n_; clear n_))
        (try go_ret)
        exact ⟨rfl, HB.out⟩
    · have hz1 : ¬ (0 : Int) < (ls.length : Int) := by omega
      go_wp2_with (first | (go_at_call 8; (with_reducible refine (regletlaw18_holds.calls true _ HHE.out).mono ?_); rintro e w1 ⟨rfl, hb1⟩; have n_ := Aside0.mk (below_step HB.out hb1); clear HB hb1; have HB := n_; clear n_) | (go_at_call 9; (with_reducible refine (regletlaw18_parts.calls 2000 _ _ ls _ _ _ (Kd.C_below HR.out HB.out) HC.out HPE.out).mono ?_); rintro e w2 ⟨v5, v6, rfl, h5, h6, hb2⟩; obtain ⟨A5, c5, e5⟩ := Kd.R_slice h5; obtain ⟨A6, c6, e6⟩ := Kd.R_slice h6; subst e5; subst e6; have H5 := Aside0.mk (Kd.R_reads' h5).2.2; have H6 := Aside0.mk (Kd.R_reads' h6).2.2; have H5c := Aside0.mk (Kd.R_reads' h5).2.1; have H6c := Aside0.mk (Kd.R_reads' h6).2.1; have n_ := Aside0.mk (below_step HB.out hb2); clear HB hb2 h5 h6; have HB := n_; clear n_) | (go_at_call 10; (with_reducible refine (moves_Order.calls _ _ ls bs outs 0 _ (Kd.C_below HR.out HB.out) HC.out HOE.out).mono ?_); rintro e w5 ⟨v9, rfl, h9, hb9⟩; obtain ⟨A9, c9, e9⟩ := Kd.R_slice h9; subst e9; have H9 := Aside0.mk (Kd.R_reads' h9).2.2; have n_ := Aside0.mk (Kd.C_below H5.out hb9); clear H5; have H5 := n_; clear n_; have n_ := Aside0.mk (Kd.C_below H6.out hb9); clear H6; have H6 := n_; clear n_; have n_ := Aside0.mk (below_step HB.out hb9); clear HB h9 hb9; have HB := n_; clear n_) | (go_at_call 11; (with_reducible refine (regletref18_Wrong.calls 2000000 _ _ _ _ _ _ bs _ _ H5.out H5c.out H6.out H6c.out HWE.out).mono ?_); rintro e w3 ⟨rfl, hd⟩; have HD := Aside0.mk (drawn0_below hd); clear hd; have n_ := Aside0.mk (Kd.C_below H5.out HD.out); clear H5; have H5 := n_; clear n_; have n_ := Aside0.mk (Kd.C_below H6.out HD.out); clear H6; have H6 := n_; clear n_; have n_ := Aside0.mk (Kd.C_below H9.out HD.out); clear H9; have H9 := n_; clear n_; have n_ := Aside0.mk (below_step HB.out HD.out); clear HB HD; have HB := n_; clear n_))
      (try go_ret)
      exact ⟨rfl, HB.out⟩
  · rw [show (!decide (OkL (ls.map toE) bs)) = true by simp [hok]] at HWE
    have HOE : Aside0 (moves_Order.f ls bs = some ([], 1)) := ⟨order_no (by omega) HI.out HBS.out hok⟩
    clear hok
    go_enter Try.func7, Try.ntmps7
    go_wp2_with (first | (go_at_call 8; (with_reducible refine (regletlaw18_holds.calls true _ HHE.out).mono ?_); rintro e w1 ⟨rfl, hb1⟩; have n_ := Aside0.mk (below_step HB.out hb1); clear HB hb1; have HB := n_; clear n_) | (go_at_call 9; (with_reducible refine (regletlaw18_parts.calls 2000 _ _ ls _ _ _ (Kd.C_below HR.out HB.out) HC.out HPE.out).mono ?_); rintro e w2 ⟨v5, v6, rfl, h5, h6, hb2⟩; obtain ⟨A5, c5, e5⟩ := Kd.R_slice h5; obtain ⟨A6, c6, e6⟩ := Kd.R_slice h6; subst e5; subst e6; have H5 := Aside0.mk (Kd.R_reads' h5).2.2; have H6 := Aside0.mk (Kd.R_reads' h6).2.2; have H5c := Aside0.mk (Kd.R_reads' h5).2.1; have H6c := Aside0.mk (Kd.R_reads' h6).2.1; have n_ := Aside0.mk (below_step HB.out hb2); clear HB hb2 h5 h6; have HB := n_; clear n_) | (go_at_call 10; (with_reducible refine (moves_Order.calls _ _ ls bs [] 1 _ (Kd.C_below HR.out HB.out) HC.out HOE.out).mono ?_); rintro e w5 ⟨v9, rfl, h9, hb9⟩; obtain ⟨A9, c9, e9⟩ := Kd.R_slice h9; subst e9; have n_ := Aside0.mk (Kd.C_below H5.out hb9); clear H5; have H5 := n_; clear n_; have n_ := Aside0.mk (Kd.C_below H6.out hb9); clear H6; have H6 := n_; clear n_; have n_ := Aside0.mk (below_step HB.out hb9); clear HB h9 hb9; have HB := n_; clear n_) | (go_at_call 11; (with_reducible refine (regletref18_Wrong.calls 2000000 _ _ _ _ _ _ bs _ _ H5.out H5c.out H6.out H6c.out HWE.out).mono ?_); rintro e w3 ⟨rfl, hd⟩; have n_ := Aside0.mk (below_step HB.out (drawn0_below hd)); clear HB hd; have HB := n_; clear n_))
    (try go_ret)
    exact ⟨rfl, HB.out⟩
set_option maxHeartbeats 8000000 in
set_option maxRecDepth 100000 in
theorem refuse_long (A0 : Option Addr) (c0 n : Nat) (bs : Int) (W : World) (hn : 200 < n) (hm : n ≤ 9223372036854775807) :
    Calls Try.prog 7 #[.slice A0 n c0, .int .i64 bs] W fun e w' => e = .returned (.bool true) ∧ Below W.heap.size W w' := by
  have HB := Aside0.mk (Below.refl W.heap.size W)
  have HHE := Aside0.mk holds_eval
  have hz1 : 200 < (n : Int) := by omega
  go_enter Try.func7, Try.ntmps7
  go_wp2_with (first | (go_at_call 8; (with_reducible refine (regletlaw18_holds.calls true _ HHE.out).mono ?_); rintro e w1 ⟨rfl, hb1⟩; have n_ := Aside0.mk (below_step HB.out hb1); clear HB hb1; have HB := n_; clear n_))
  (try go_ret)
  exact ⟨rfl, HB.out⟩
theorem movesRefuse_walk (A0 : Option Addr) (c0 : Nat) (ls : List S35) (bs : Int) (W : World) (hr0 : Kd.C k35 W A0 ls.length ls) (hc : ls.length ≤ c0) (hr : ∀ x ∈ ls, inR x.f0 ∧ inR x.f1) (hb : inR bs) :
    Calls Try.prog 7 #[.slice A0 ls.length c0, .int .i64 bs] W fun e w' => e = .returned (.bool true) ∧ Below W.heap.size W w' := by
  by_cases h : ls.length ≤ 200
  · exact refuse_x A0 c0 ls bs W hr0 hc hr hb h
  · exact refuse_long A0 c0 ls.length bs W (by omega) (Kd.C_max hr0)
end Go.Proofs.Ytjolnfhgiddafaa.PAll
