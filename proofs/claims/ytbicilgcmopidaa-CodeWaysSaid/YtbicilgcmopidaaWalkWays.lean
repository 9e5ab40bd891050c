/-
  The walk of the law CodeWays: a loop that appends to two slices and writes a map, then Decode.
-/
import Derived.Test.YtbicilgcmopidaaWaysPure
import Derived.Test.YtbicilgcmopidaaMapInt
import Derived.Test.YtbicilgcmopidaaOwn
namespace Go.Proofs.Ytbicilgcmopidaa.PAll
open Go.RowKit Go.Proofs.YtbicilgcmopidaaW.PrintWords Go.Proofs.YtbicilgcmopidaaW.PrintLast Go.Proofs.YtbicilgcmopidaaW.PrintMore
open Go.Proofs.Ytbicilgcmopidaa.MapInt (IM inR upd app_new own_kept own_apart own_apart_obj own_block own_below own_alloc' own_ne_cells own_ne_map grown_alloc own_row_lt own_slice')
set_option linter.unusedVariables false
set_option linter.unusedSimpArgs false
def begF (zs : List Int) (i : Nat) : Int → Option Int := fun x => if begins zs i x = true then some 1 else none
theorem begF_succ (zs : List Int) (i : Nat) : upd (begF zs i) ((wb (zs.take i)).length : Int) 1 = begF zs (i + 1) := by
  funext x
  unfold upd begF
  rw [begins_succ]
  by_cases h : x = ((wb (zs.take i)).length : Int)
  · rw [if_pos h]; simp [h]
  · rw [if_neg h]; simp [h]
theorem wb_take_succ (zs : List Int) (i : Nat) (h : i < zs.length) : wb (zs.take (i + 1)) = wb (zs.take i) ++ piece (rd zs i) := by
  rw [take_rdw zs i h, wb_snoc]
theorem dst_lim (d0 : Int) (L : Nat) (hL : L ≤ 900) : ∃ dst : Int, wrap64 ((wrap64 (wrap64 (d0.tmod ((L : Int) + 5) + (L : Int)) + 5)).tmod ((L : Int) + 5) - 1) = dst ∧ -1 ≤ dst ∧ dst ≤ (L : Int) + 3 := by
  have h1 : -((L : Int) + 5) < d0.tmod ((L : Int) + 5) ∧ d0.tmod ((L : Int) + 5) < (L : Int) + 5 := ⟨by have := Int.lt_tmod_of_pos d0 (show (0 : Int) < (L : Int) + 5 by omega); omega, Int.tmod_lt_of_pos _ (by omega)⟩
  have hw : wrap64 (wrap64 (d0.tmod ((L : Int) + 5) + (L : Int)) + 5) = d0.tmod ((L : Int) + 5) + L + 5 := by unfold wrap64; omega
  rw [hw, Int.tmod_eq_emod_of_nonneg (by omega)]
  have h2 := Int.emod_nonneg (d0.tmod ((L : Int) + 5) + L + 5) (show (L : Int) + 5 ≠ 0 by omega)
  have h3 := Int.emod_lt_of_pos (d0.tmod ((L : Int) + 5) + L + 5) (show (0 : Int) < (L : Int) + 5 by omega)
  refine ⟨_, rfl, ?_, ?_⟩
  · rw [w_small _ (by omega) (by omega)]; omega
  · rw [w_small _ (by omega) (by omega)]; omega
theorem zero3 (w : World) : (zeroValue 3).run Try.prog w = .ok (.int .i64 0) w := by kernel_rfl
structure WSt (w : World) (B1 : Nat) (wr : World) (v6 v8 : Value) (m : Nat) (f : Int → Option Int) (bs : List Int) (xs : List Value) : Prop where
  map : IM Try.prog wr B1 m f
  bytes : wr.ownsRow w.heap.size 5 1 v6 bs.length (nums .u8 bs)
  places : wr.ownsRow w.heap.size 3 1 v8 xs.length xs
  below : Below w.heap.size w wr
  lo : w.heap.size ≤ B1
section
variable {w wr w2 : World} {B1 m : Nat} {v6 v8 v' : Value} {f f' : Int → Option Int} {bs : List Int} {xs : List Value}
theorem WSt.stored (h : WSt w B1 wr v6 v8 m f bs xs) (hm : IM Try.prog w2 B1 (m + 1) f') (hg : wr.grownBy w2 (some B1)) : WSt w B1 w2 v6 v8 (m + 1) f' bs xs := by
  obtain ⟨es, c, hmap⟩ := h.map.isMap
  exact ⟨hm, own_kept h.bytes hg (own_apart_obj h.bytes hmap (fun _ e => by cases e)), own_kept h.places hg (own_apart_obj h.places hmap (fun _ e => by cases e)), h.below.grown hg h.below.size (fun k hk => by cases hk; exact h.lo), h.lo⟩
theorem WSt.placed (h : WSt w B1 wr v6 v8 m f bs xs) {ys : List Value} {cs : Array Value} (ho : w2.ownsRow w.heap.size 3 1 v' ys.length ys) (hg : (wr.alloc (.cells cs 3)).grownBy w2 v8.ownBlock) : WSt w B1 w2 v6 v' m f bs ys := by
  have hg' := grown_alloc hg
  obtain ⟨es, c, hmap⟩ := h.map.isMap
  exact ⟨h.map.kept hg' (own_ne_map h.places hmap), own_kept h.bytes hg' (own_apart h.bytes h.places (by decide)), ho, h.below.grown hg' h.below.size (fun k hk => (own_row_lt h.places k hk).2), h.lo⟩
theorem WSt.byted (h : WSt w B1 wr v6 v8 m f bs xs) {cs : Array Value} {bs' : List Int} (ho : w2.ownsRow w.heap.size 5 1 v' bs'.length (nums .u8 bs')) (hg : (wr.alloc (.cells cs 5)).grownBy w2 v6.ownBlock) : WSt w B1 w2 v' v8 m f bs' xs := by
  have hg' := grown_alloc hg
  obtain ⟨es, c, hmap⟩ := h.map.isMap
  exact ⟨h.map.kept hg' (own_ne_map h.bytes hmap), ho, own_kept h.places hg' (own_apart h.places h.bytes (by decide)), h.below.grown hg' h.below.size (fun k hk => (own_row_lt h.bytes k hk).2), h.lo⟩
theorem WSt.called (h : WSt w B1 wr v6 v8 m f bs xs) (hb : Below wr.heap.size wr w2) : WSt w B1 w2 v6 v8 m f bs xs :=
  ⟨h.map.below hb, own_below h.bytes hb, own_below h.places hb, below_step h.below hb, h.lo⟩
theorem WSt.reads {A : Option Addr} {n c : Nat} (h : WSt w B1 wr (.slice A n c) v8 m f bs xs) : n = bs.length ∧ n ≤ c ∧ Kd.C (Kd.int .u8) wr A bs.length bs :=
  Kd.R_reads' (Kd.R_of_own (enc := Value.int .u8) (ok := fun _ => True) h.bytes (fun _ _ => trivial))
end
set_option maxHeartbeats 8000000 in
set_option maxRecDepth 100000 in
theorem ways_x (A0 : Option Addr) (c0 : Nat) (zs : List Int) (d0 : Int) (w : World) (hr0 : Kd.C (Kd.int .i64) w A0 zs.length zs) (hz : zs.length ≤ 300) :
    Calls Try.prog 4 #[.slice A0 zs.length c0, .int .i64 d0] w fun e w' => e = .returned (.bool true) ∧ Below w.heap.size w w' := by
  have HB := Aside0.mk (Below.refl w.heap.size w)
  have HR := Aside0.mk hr0
  clear hr0
  have hmk := @run_makeMap Try.prog
  have hz1 : (zs.length : Int) ≤ 300 := by omega
  go_enter Try.func4, Try.ntmps4
  go_wp2_with (first | ((with_reducible refine gate_callee (f := 8) rfl ?_); refine goesL_ (some 14) rfl rfl Try.func8 (by kernel_rfl) rfl #[] rfl (by (try simp only [List.map_toArray, List.map_cons, List.map_nil]); first | done | rfl | (simp only [List.length_drop, List.length_take]; rfl)) ?_; (with_reducible refine (regletlaw06_holds.calls 60 true _ holds_fin).mono ?_); rintro e w1 ⟨rfl, hb⟩; refine ⟨_, rfl, ?_⟩; have n0_ := Aside0.mk (below_step (by repeat (first | (with_reducible first | exact HB.out | apply below_alloc | apply pw_below_drewN | apply below_drew1) | exact HB.out)) hb); clear HB; have HB := n0_; clear n0_; (try clear hb)))
  have HS := Aside0.mk (show WSt w w1.heap.size (w1.alloc (.map #[] 0)) (.slice none 0 0) (.slice none 0 0) 0 (begF zs 0) (wb (zs.take 0)) [] from ⟨IM.made _ _, ⟨rfl, .inl ⟨rfl, rfl⟩⟩, ⟨rfl, .inl ⟨rfl, rfl⟩⟩, by repeat (first | (with_reducible first | exact HB.out | apply below_alloc | apply pw_below_drewN | apply below_drew1) | exact HB.out), HB.out.size⟩)
  clear HB
  go_loopw [6, 8, 22] (fun v6 v8 v22 wr => ∃ (i : Nat) (xs : List Value), i ≤ zs.length ∧ v22 = .int .i64 i ∧ Aside0 (WSt w w1.heap.size wr v6 v8 i (begF zs i) (wb (zs.take i)) xs) ∧ Aside0 (xs.length = i)) (fun _ _ v22 _ => zs.length - (intOf v22).toNat)
  case atStart => exact ⟨0, [], Nat.zero_le _, rfl, HS, ⟨rfl⟩⟩
  case round =>
    clear HS
    obtain ⟨i, xs, hi, rfl, HS, HX⟩ := hrel
    obtain ⟨A6, c6, e6⟩ := own_slice' HS.out.bytes
    subst e6
    by_cases hlt : i < zs.length
    · have hlt' : (i : Int) < (zs.length : Int) := by omega
      obtain ⟨ad, rfl, hc0⟩ := Kd.at_int HR.out (i : Int) (by omega) hlt'
      rw [Int.toNat_natCast] at hc0
      have hcell : wr.cell? (ad.add i) = some (.int .i64 (rd zs i)) := (HS.out.below.cell (World.block_lt_of_cell? w _ hc0)).trans hc0
      clear hc0
      have hwl := wb_len (zs.take i)
      have hwi : (zs.take i).length = i := by rw [List.length_take]; omega
      have hb9 : (wb (zs.take i)).length ≤ 900 := by omega
      have hb9' : ((wb (zs.take i)).length : Int) ≤ 900 := by omega
      clear hwl hwi
      have hrem : (wrap64 ((rd zs i).tmod 3 + 3)).tmod 3 = (cls (rd zs i) : Int) := by
        have h1 : -3 < (rd zs i).tmod 3 ∧ (rd zs i).tmod 3 < 3 := ⟨by have := Int.lt_tmod_of_pos (rd zs i) (show (0 : Int) < 3 by decide); omega, Int.tmod_lt_of_pos _ (by decide)⟩
        have hw : wrap64 ((rd zs i).tmod 3 + 3) = (rd zs i).tmod 3 + 3 := by unfold wrap64; omega
        rw [hw, Int.tmod_eq_emod_of_nonneg (by omega)]
        unfold cls; omega
      have hbs := begF_succ zs i
      have HBS := Aside0.mk hbs; clear hbs
      have hnx := wb_take_succ zs i hlt
      rcases cls_lt (rd zs i) with hc | hc | hc
      all_goals
        rw [hc] at hrem
        have hpc : piece (rd zs i) = if cls (rd zs i) = 0 then [0] else if cls (rd zs i) = 1 then [16, 5] else [17, 1, 1] := rfl
        rw [hc] at hpc
      · have HP : Aside0 ((wb (zs.take (i + 1))).length = (wb (zs.take i)).length + 1 ∧ nums .u8 (wb (zs.take (i + 1))) = nums .u8 (wb (zs.take i)) ++ [.int .u8 0]) := ⟨by rw [hnx, hpc]; exact ⟨by simp, by simp [nums]⟩⟩
        clear hnx hpc hc
        go_wp2_with (first | (at_mapUpdate; refine MapInt.store Try.underlying3 rfl _ _ _ 33 rfl Try.underlying33 rfl HS.out.map (by omega) rfl rfl ⟨by omega, by omega⟩ ⟨by decide, by decide⟩ ?_; intro w2 hm2 hg2 hz2; have n_ := Aside0.mk (HS.out.stored hm2 hg2); clear hm2 hg2 hz2 HS; have HS := n_; clear n_) | (at_builtin; refine app_new rfl (.tmp 29) (.tmp 32) 32 3 (.int .i64 0) 1 8 rfl Try.underlying32 info3 rfl (by decide) rfl HS.out.places _ 1 rfl rfl (fun u hu => by simp at hu; subst hu; rfl) (by have := HX.out; omega) (by have := HX.out; omega) HS.out.below.size ?_; intro v' w3 ho hg; have n_ := Aside0.mk (HS.out.placed (ys := xs ++ _) (by rw [List.length_append]; exact ho) hg); clear ho hg HS; have HS := n_; clear n_) | (at_builtin; refine app_new rfl (.tmp 43) (.tmp 44) 22 5 (.int .u8 0) 1 1 rfl Try.underlying22 info5 rfl (by decide) rfl HS.out.bytes _ 1 rfl rfl (fun u hu => by simp at hu; rcases hu with rfl | rfl | rfl <;> rfl) (by omega) (by omega) HS.out.below.size ?_; intro v' w3 ho hg; have n_ := Aside0.mk (HS.out.byted (bs' := wb (zs.take (i + 1))) (by rw [HP.out.1, HP.out.2]; exact ho) hg); clear ho hg HS; have HS := n_; clear n_))
        go_roundw
        case rel => exact ⟨i + 1, _, by omega, by go_num, by rw [← HBS.out]; exact HS, ⟨by simp; exact HX.out⟩⟩
        case measure => simp [intOf]; omega
      · have HP : Aside0 ((wb (zs.take (i + 1))).length = (wb (zs.take i)).length + 2 ∧ nums .u8 (wb (zs.take (i + 1))) = nums .u8 (wb (zs.take i)) ++ [.int .u8 16, .int .u8 5]) := ⟨by rw [hnx, hpc]; exact ⟨by simp, by simp [nums]⟩⟩
        clear hnx hpc hc
        go_wp2_with (first | (at_mapUpdate; refine MapInt.store Try.underlying3 rfl _ _ _ 33 rfl Try.underlying33 rfl HS.out.map (by omega) rfl rfl ⟨by omega, by omega⟩ ⟨by decide, by decide⟩ ?_; intro w2 hm2 hg2 hz2; have n_ := Aside0.mk (HS.out.stored hm2 hg2); clear hm2 hg2 hz2 HS; have HS := n_; clear n_) | (at_builtin; refine app_new rfl (.tmp 29) (.tmp 32) 32 3 (.int .i64 0) 1 8 rfl Try.underlying32 info3 rfl (by decide) rfl HS.out.places _ 1 rfl rfl (fun u hu => by simp at hu; subst hu; rfl) (by have := HX.out; omega) (by have := HX.out; omega) HS.out.below.size ?_; intro v' w3 ho hg; have n_ := Aside0.mk (HS.out.placed (ys := xs ++ _) (by rw [List.length_append]; exact ho) hg); clear ho hg HS; have HS := n_; clear n_) | (at_builtin; refine app_new rfl (.tmp 48) (.tmp 49) 22 5 (.int .u8 0) 1 1 rfl Try.underlying22 info5 rfl (by decide) rfl HS.out.bytes _ 2 rfl rfl (fun u hu => by simp at hu; rcases hu with rfl | rfl | rfl <;> rfl) (by omega) (by omega) HS.out.below.size ?_; intro v' w3 ho hg; have n_ := Aside0.mk (HS.out.byted (bs' := wb (zs.take (i + 1))) (by rw [HP.out.1, HP.out.2]; exact ho) hg); clear ho hg HS; have HS := n_; clear n_))
        go_roundw
        case rel => exact ⟨i + 1, _, by omega, by go_num, by rw [← HBS.out]; exact HS, ⟨by simp; exact HX.out⟩⟩
        case measure => simp [intOf]; omega
      · have HP : Aside0 ((wb (zs.take (i + 1))).length = (wb (zs.take i)).length + 3 ∧ nums .u8 (wb (zs.take (i + 1))) = nums .u8 (wb (zs.take i)) ++ [.int .u8 17, .int .u8 1, .int .u8 1]) := ⟨by rw [hnx, hpc]; exact ⟨by simp, by simp [nums]⟩⟩
        clear hnx hpc hc
        go_wp2_with (first | (at_mapUpdate; refine MapInt.store Try.underlying3 rfl _ _ _ 33 rfl Try.underlying33 rfl HS.out.map (by omega) rfl rfl ⟨by omega, by omega⟩ ⟨by decide, by decide⟩ ?_; intro w2 hm2 hg2 hz2; have n_ := Aside0.mk (HS.out.stored hm2 hg2); clear hm2 hg2 hz2 HS; have HS := n_; clear n_) | (at_builtin; refine app_new rfl (.tmp 29) (.tmp 32) 32 3 (.int .i64 0) 1 8 rfl Try.underlying32 info3 rfl (by decide) rfl HS.out.places _ 1 rfl rfl (fun u hu => by simp at hu; subst hu; rfl) (by have := HX.out; omega) (by have := HX.out; omega) HS.out.below.size ?_; intro v' w3 ho hg; have n_ := Aside0.mk (HS.out.placed (ys := xs ++ _) (by rw [List.length_append]; exact ho) hg); clear ho hg HS; have HS := n_; clear n_) | (at_builtin; refine app_new rfl (.tmp 38) (.tmp 39) 22 5 (.int .u8 0) 1 1 rfl Try.underlying22 info5 rfl (by decide) rfl HS.out.bytes _ 3 rfl rfl (fun u hu => by simp at hu; rcases hu with rfl | rfl | rfl <;> rfl) (by omega) (by omega) HS.out.below.size ?_; intro v' w3 ho hg; have n_ := Aside0.mk (HS.out.byted (bs' := wb (zs.take (i + 1))) (by rw [HP.out.1, HP.out.2]; exact ho) hg); clear ho hg HS; have HS := n_; clear n_))
        go_roundw
        case rel => exact ⟨i + 1, _, by omega, by go_num, by rw [← HBS.out]; exact HS, ⟨by simp; exact HX.out⟩⟩
        case measure => simp [intOf]; omega
    · have hlt' : ¬ (i : Int) < (zs.length : Int) := by omega
      obtain rfl : i = zs.length := by omega
      have htk : zs.take zs.length = zs := List.take_length
      have hwl := wb_len zs
      have hb9 : (wb zs).length ≤ 900 := by omega
      have hb9' : ((wb zs).length : Int) ≤ 900 := by omega
      rw [htk] at HS
      rw [htk]
      clear hwl htk
      obtain ⟨dst, hdst, d1, d2⟩ := dst_lim d0 (wb zs).length hb9
      have hw2 : wrap64 (dst - ((wb zs).length : Int)) = dst - ((wb zs).length : Int) := w_small _ (by omega) (by omega)
      have HP : Aside0 ((code zs (dst - (wb zs).length)).length = (wb zs).length + 3 ∧ nums .u8 (code zs (dst - (wb zs).length)) = nums .u8 (wb zs) ++ [.int .u8 167, .int .u8 ((dst - (wb zs).length) / 256 % 256), .int .u8 ((dst - (wb zs).length) % 256)]) := ⟨code_len _ _, by simp [code, nums]⟩
      obtain ⟨A8, c8, e8⟩ := own_slice' HS.out.places
      subst e8
      have hx8 : ((xs.length : Int) == (zs.length : Int)) = true := by have := HX.out; simp; omega
      obtain ⟨l, hdec, hll, hla⟩ := ways_decode zs hz dst d1 d2 5000 (by decide)
      have hlk : (upd (begF zs zs.length) ((wb zs).length : Int) 1 dst).getD 0 = if begins zs (zs.length + 1) dst = true then 1 else 0 := by
        have := congrFun (begF_succ zs zs.length) dst
        rw [List.take_length] at this
        rw [this]; unfold begF; split <;> rfl
      by_cases hbg : begins zs (zs.length + 1) dst = true
      · rw [if_pos hbg] at hdec hlk
        have HD := Aside0.mk hdec
        clear hdec hbg
        have hla' : (rd_T36 l ((l.length : Int) - 1)).f2 = dst := by rw [hll, show ((zs.length + 1 : Nat) : Int) - 1 = ((zs.length : Nat) : Int) by omega]; exact hla
        have l1 : 1 ≤ (l.length : Int) := by omega
        have l2 : ((l.length : Int) == (zs.length : Int) + 1) = true := by simp; omega
        have l3 : (l.length : Int) ≤ 301 := by omega
        clear hla hll
        go_wp2_with (first | (at_mapUpdate; refine MapInt.store Try.underlying3 rfl _ _ _ 33 rfl Try.underlying33 rfl HS.out.map (by omega) rfl rfl ⟨by omega, by omega⟩ ⟨by decide, by decide⟩ ?_; intro w2 hm2 hg2 hz2; have n_ := Aside0.mk (HS.out.stored hm2 hg2); clear hm2 hg2 hz2 HS; have HS := n_; clear n_) | (at_builtin; refine app_new rfl (.tmp 74) (.tmp 80) 22 5 (.int .u8 0) 1 1 rfl Try.underlying22 info5 rfl (by decide) rfl HS.out.bytes _ 3 rfl rfl (fun u hu => by simp at hu; rcases hu with rfl | rfl | rfl <;> rfl) (by omega) (by omega) HS.out.below.size ?_; intro v' w3 ho hg; have n_ := Aside0.mk (HS.out.byted (bs' := code zs (dst - (wb zs).length)) (by rw [HP.out.1, HP.out.2]; exact ho) hg); clear ho hg HS; have HS := n_; clear n_; obtain ⟨A7, c7, e7⟩ := own_slice' HS.out.bytes; subst e7) | (go_at_call 9; (with_reducible refine (code_Decode.calls 5000 _ _ (code zs (dst - (wb zs).length)) _ _ _ HS.out.reads.2.2 HS.out.reads.2.1 HD.out).mono ?_); rintro e w4 ⟨v0, rfl, hR, hb⟩; have n_ := Aside0.mk (HS.out.called hb); clear hb HS; have HS := n_; clear n_; obtain ⟨A9, c9, e9⟩ := Kd.R_slice hR; subst e9; have HR9 := Aside0.mk hR; clear hR; obtain ⟨ad9, ea9, hc0, hc1, hc2, hc3⟩ := at_T36 (Kd.R_reads' HR9.out).2.2 ((l.length : Int) - 1) (by omega) (by omega); subst ea9; rw [hla', show ((l.length : Int) - 1).toNat = l.length - 1 by omega] at hc2; clear hc0 hc1 hc3 hla') | (at_lookup; refine MapInt.look Try.underlying3 rfl _ _ 33 rfl Try.underlying33 (zero3 _) rfl HS.out.map rfl ⟨by omega, by omega⟩ ?_))
        go_ret
        exact ⟨rfl, HS.out.below⟩
      · rw [if_neg hbg] at hdec hlk
        have HD := Aside0.mk hdec
        clear hdec hbg hll hla
        go_wp2_with (first | (at_mapUpdate; refine MapInt.store Try.underlying3 rfl _ _ _ 33 rfl Try.underlying33 rfl HS.out.map (by omega) rfl rfl ⟨by omega, by omega⟩ ⟨by decide, by decide⟩ ?_; intro w2 hm2 hg2 hz2; have n_ := Aside0.mk (HS.out.stored hm2 hg2); clear hm2 hg2 hz2 HS; have HS := n_; clear n_) | (at_builtin; refine app_new rfl (.tmp 74) (.tmp 80) 22 5 (.int .u8 0) 1 1 rfl Try.underlying22 info5 rfl (by decide) rfl HS.out.bytes _ 3 rfl rfl (fun u hu => by simp at hu; rcases hu with rfl | rfl | rfl <;> rfl) (by omega) (by omega) HS.out.below.size ?_; intro v' w3 ho hg; have n_ := Aside0.mk (HS.out.byted (bs' := code zs (dst - (wb zs).length)) (by rw [HP.out.1, HP.out.2]; exact ho) hg); clear ho hg HS; have HS := n_; clear n_; obtain ⟨A7, c7, e7⟩ := own_slice' HS.out.bytes; subst e7) | (go_at_call 9; (with_reducible refine (code_Decode.calls 5000 _ _ (code zs (dst - (wb zs).length)) _ _ _ HS.out.reads.2.2 HS.out.reads.2.1 HD.out).mono ?_); rintro e w4 ⟨v0, rfl, hR, hb⟩; have n_ := Aside0.mk (HS.out.called hb); clear hb HS; have HS := n_; clear n_; obtain ⟨A9, c9, e9⟩ := Kd.R_slice hR; subst e9; have HR9 := Aside0.mk hR; clear hR) | (at_lookup; refine MapInt.look Try.underlying3 rfl _ _ 33 rfl Try.underlying33 (zero3 _) rfl HS.out.map rfl ⟨by omega, by omega⟩ ?_))
        go_ret
        exact ⟨rfl, HS.out.below⟩

set_option maxHeartbeats 8000000 in
set_option maxRecDepth 100000 in
theorem ways_long (A0 : Option Addr) (c0 n : Nat) (d0 : Int) (w : World) (hn : 300 < n) (hm : n ≤ 9223372036854775807) :
    Calls Try.prog 4 #[.slice A0 n c0, .int .i64 d0] w fun e w' => e = .returned (.bool true) ∧ Below w.heap.size w w' := by
  have HB := Aside0.mk (Below.refl w.heap.size w)
  have hz1 : 300 < (n : Int) := by omega
  go_enter Try.func4, Try.ntmps4
  go_wp2_with (first | ((with_reducible refine gate_callee (f := 8) rfl ?_); refine goesL_ (some 14) rfl rfl Try.func8 (by kernel_rfl) rfl #[] rfl (by (try simp only [List.map_toArray, List.map_cons, List.map_nil]); first | done | rfl | (simp only [List.length_drop, List.length_take]; rfl)) ?_; (with_reducible refine (regletlaw06_holds.calls 60 true _ holds_fin).mono ?_); rintro e w1 ⟨rfl, hb⟩; refine ⟨_, rfl, ?_⟩; have n0_ := Aside0.mk (below_step (by repeat (first | (with_reducible first | exact HB.out | apply below_alloc | apply pw_below_drewN | apply below_drew1) | exact HB.out)) hb); clear HB; have HB := n0_; clear n0_; (try clear hb)))
  go_ret
  exact ⟨rfl, HB.out⟩

theorem codeWays_walk (a0 : Option Addr) (len0 cap0 : Nat) (z0 : List Int) (a1 : Int) (w : World) (w0 : (a0 = none ∧ len0 = 0 ∧ cap0 = 0 ∧ z0 = []) ∨ ∃ x, a0 = some x ∧ len0 ≤ cap0 ∧ cap0 ≤ maxLen ∧ z0.length = cap0 ∧ (∀ i, i < z0.length → w.cell? (x.add i) = some (.int .i64 (z0.getD i 0))) ∧ ∀ n ∈ z0, (Lit.int .i64 n).wf = true)
    (_y0 : len0 * 8 ≤ 140737488351232) (_w1 : (Lit.int .i64 a1).wf = true) : Calls Try.prog 4 #[.slice a0 len0 cap0, .int .i64 a1] w fun e w' => e = .returned (.bool true) ∧ Below w.heap.size w w' := by
  obtain ⟨l0, rfl, hr0, hm0, hw0, hc0⟩ := ReadsInt.ofRowC w0
  by_cases h : l0.length ≤ 300
  · exact ways_x a0 cap0 l0 a1 w (Kd.C_of_reads (d := (0 : Int)) (h1 := fun _ => rfl) hr0) h
  · exact ways_long a0 cap0 l0.length a1 w (by omega) (by unfold maxLen at hm0; omega)

end Go.Proofs.Ytbicilgcmopidaa.PAll
