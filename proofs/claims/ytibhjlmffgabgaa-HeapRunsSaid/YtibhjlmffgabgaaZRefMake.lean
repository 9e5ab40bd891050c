import Derived.Test.YtibhjlmffgabgaaZRefSet
namespace Go.Proofs.Ytibhjlmffgabgaa.PAll
open Go.RowKit Go.Proofs.YtibhjlmffgabgaaW.PrintWords Go.Proofs.YtibhjlmffgabgaaW.PrintLast Go.Proofs.YtibhjlmffgabgaaW.PrintMore
open Go.Proofs.Ytibhjlmffgabgaa.MapInt
set_option linter.unusedVariables false
set_option linter.unusedSimpArgs false
theorem app_step_sz {P : Program} {ops : Array Oper} {o : Oper} {a : Act} {Kc : Act → World → Prop} {Q' : Exit → Act → World → Prop} {E : Prop} {W : World} (hgd : o.guard = none) (s x : Operand) (t e : TypeId) (z : Value) (size bytes : Nat) (ho : o.op = .call { callee := .builtin .append, args := #[s, x], argTypes := #[t, t] })
    (ht : P.underlying t = some (.slice e)) (hinfo : (P.info? e).map (fun i => (i.zero, i.size, i.bytes)) = some (some z, size, bytes)) (hzs : z.cells.size = size) (hsz : 0 < size)
    {B : Nat} {v : Value} {n : Nat} {xs : List Value} (hs : a.eval s = v) (hown : W.ownsRow B e size v n xs) (cs : Array Value) (m : Nat) {sz : Nat} (hx : a.eval x = .slice (some ⟨sz, 0, none⟩) m m) (hsz' : sz = W.heap.size)
    (hl : cs.size = m * size) (h1 : ∀ u ∈ cs.toList, u.oneCell' = true) (hlen : n + m ≤ 9223372036854775807) (hbytes : (n + m) * bytes ≤ 140737488355328) (hB : B ≤ W.heap.size)
    (hK : ∀ v' w', w'.ownsRow B e size v' (n + m) (xs ++ cs.toList) → W.grownBy w' v.ownBlock → (v'.ownBlock = v.ownBlock ∨ v'.ownBlock = some (W.heap.size + 1)) → Kc (a.put o.dst v') w') :
    if Region.wanted o (yielded ops a.tmps) = true then Oper.wp P o a (W.alloc (.cells cs e)) Kc Q' else E := by
  subst hsz'
  exact app_step_at hgd s x t e z size bytes ho ht hinfo hzs hsz hs hown cs m hx hl h1 hlen hbytes hB hK
section
variable {w w2 : World} {base g : Nat} {Q K : Nat → Prop} {most mv : Int} {ls : List SH} {ts : List TH} {shV thV : Value}
theorem RM.more (h : RM w base Q K g most ls ts mv shV thV) {Q2 : Nat → Prop} (h1 : ∀ k, Q k → Q2 k) (h2 : ∀ k, Q2 k → k < w.heap.size) (h3 : ∀ k, Q2 k → ¬ K k) : RM w base Q2 K g most ls ts mv shV thV :=
  ⟨h.box, h.sh, h.th, h.kin, fun t ht => ⟨(h.wds t ht).1, h1 _ (h.wds t ht).2⟩, h.nd, h1 _ h.qg, fun k e => h1 _ (h.qs k e), fun k e => h1 _ (h.qt k e), h2, h.kl, h3⟩
theorem RM.px (h : RM w base Q K g most ls ts mv shV thV) (hb : Below w.heap.size w w2) : RM w2 base (PX Q w w2) K g most ls ts mv shV thV :=
  (h.below hb).more (fun k hk => .inl hk) (fun k hk => hk.elim (fun hq => Nat.lt_of_lt_of_le (h.lt k hq) hb.size) (fun h2 => h2.2)) (fun k hk hkk => hk.elim (fun hq => h.qk k hq hkk) (fun h2 => by have := h.kl k hkk; omega))
theorem RM.make (h : RM w base Q K g most ls ts mv shV thV) {W w9 w10 : World} {v' : Value} {t : TH} (hb : Below w.heap.size w W) (ho : w9.ownsRow base 76 2 v' (ts.length + 1) (ts.flatMap thC ++ thC t)) (hg : W.grownBy w9 thV.ownBlock) (hat : v'.ownBlock = thV.ownBlock ∨ v'.ownBlock = some (W.heap.size + 1))
    (hb2 : Blk w10 g 55 #[.int .i64 most, shV, v', .int .i64 mv]) (hg2 : w9.grownBy w10 (some g)) (hbk : Blk W t.b 2 (wC t.t.xs)) (hnew : w.heap.size ≤ t.b) : RM w10 base (PX Q w w10) K g most ls (ts ++ [t]) mv shV v' ∧ Chg Q w w10 := by
  have s1 := hb.size
  have s2 := hg.size
  have s3 := hg2.size
  have hkeep : ∀ k, k < w.heap.size → k ≠ g → some k ≠ thV.ownBlock → w10.heap[k]? = w.heap[k]? := fun k hk h1 h2 => by
    rw [hg2.block k (by omega) (fun e => h1 (by injection e)), hg.block k (by omega) h2, hb.block k hk]
  have hgo : some g ≠ thV.ownBlock := own_ne_cells h.th h.box (by decide)
  have hsz : w.heap.size ≤ w10.heap.size := by omega
  have hb9 : Blk w9 g 55 #[.int .i64 most, shV, thV, .int .i64 mv] := (h.box.below hb).kept hg hgo
  have hbt : Blk w10 t.b 2 (wC t.t.xs) := (hbk.kept hg (fun e => by have := (own_row_lt h.th _ e.symm).1; omega)).kept hg2 (fun e => by injection e with e; have := h.box.lt; omega)
  refine ⟨⟨hb2, own_move h.sh (fun k e => hkeep k (own_row_lt h.sh k e).1 (fun e2 => own_ne_cells h.sh h.box (by decide) (e2 ▸ e.symm)) (fun e2 => own_apart h.th h.sh (by decide) k e2.symm e.symm)), ?_, fun l hl => ⟨Kd.F_step (h.kin l hl).1 (fun k ho hl => hkeep k hl (fun e => h.qk k (e ▸ h.qg) ho) (fun e => h.qk k (h.qt k e.symm) ho)), (h.kin l hl).2⟩, ?_, ?_, .inl h.qg, fun k e => .inl (h.qs k e), ?_, ?_, fun k hkk => Nat.lt_of_lt_of_le (h.kl k hkk) hsz, ?_⟩, ⟨?_, ?_, ?_, hsz, fun k hk hn => hkeep k hk (fun e => hn (e ▸ h.qg)) (fun e => hn (h.qt k e.symm))⟩⟩
  · rw [List.length_append, List.flatMap_append]
    have := own_kept ho hg2 (fun k hk e => own_ne_cells ho hb9 (by decide) (e.symm.trans hk.symm))
    simpa using this
  · intro u hu
    rcases List.mem_append.1 hu with e | e
    · have hw := (h.wds u e).1
      refine ⟨?_, .inl (h.wds u e).2⟩
      unfold Blk
      rw [hkeep u.b hw.lt (fun e => h.box.ne_type hw (by decide) e.symm) (hw.ne_own h.th (by decide))]
      exact hw
    · simp at e; subst e
      exact ⟨hbt, .inr ⟨hnew, hbt.lt⟩⟩
  · rw [List.map_append, List.nodup_append]
    refine ⟨h.nd, by simp, fun a ha b hb => ?_⟩
    simp at hb; subst hb
    obtain ⟨u, hu, rfl⟩ := List.mem_map.1 ha
    have := (h.wds u hu).1.lt
    omega
  · intro k e
    rcases hat with h1 | h1
    · exact .inl (h.qt k (h1 ▸ e))
    · rw [h1] at e; injection e with e
      have := (own_row_lt ho k (by rw [h1, e])).1
      exact .inr ⟨by omega, by omega⟩
  · intro k hq
    rcases hq with h1 | h1
    · exact Nat.lt_of_lt_of_le (h.lt k h1) hsz
    · exact h1.2
  · intro k hq hkk
    rcases hq with h1 | h1
    · exact h.qk k h1 hkk
    · have := h.kl k hkk; omega
  · rw [hg2.os, hg.os, hb.os]
  · rw [hg2.tape, hg.tape, hb.tape]
  · rw [hg2.output, hg.output, hb.output]
theorem RF.make (hf : RF most ls ts) {t : TH} (h1 : okT (cvt ls) t.t) (h2 : (sumT (cvt ls) (ts.map (·.t)) : Int) + tsz (cvt ls) t.t ≤ most) (h3 : ∀ x ∈ t.t.xs, inR x) : RF most ls (ts ++ [t]) := by
  refine ⟨hf.bnd, ?_, fun u hu => ?_, hf.arr, hf.shl, fun u hu => ?_, hf.len⟩
  · rw [List.map_append]
    unfold sumT at h2 ⊢
    rw [List.map_append, List.sum_append]
    simp only [List.map_cons, List.map_nil, List.sum_cons, List.sum_nil]
    omega
  · rcases List.mem_append.1 hu with h | h
    · exact hf.things u h
    · simp at h; subst h; exact h1
  · rcases List.mem_append.1 hu with h | h
    · exact hf.wrd u h
    · simp at h; subst h; exact h3
theorem RF.cvl (hf : RF most ls ts) : ∀ s, (shOf (cvt ls) s).f0.length ≤ 1000 := fun s => by
  cases hs : ls[s]? with
  | none =>
    have : shOf (cvt ls) s = z65 := by unfold shOf cvt; rw [List.getD_eq_getElem?_getD, List.getElem?_map, hs]; rfl
    rw [this]; simp [z65]
  | some l =>
    rw [cv_at hs]
    have := hf.shl l (List.mem_of_getElem? hs)
    unfold cvS
    split
    · simp
    · simpa using this
theorem info76b : (Try.prog.info? 76).map (fun i => (i.zero, i.size, i.bytes)) = some (some (.agg #[.int .i64 0, .slice none 0 0]), 2, 32) := by kernel_rfl
set_option maxHeartbeats 8000000 in
set_option maxRecDepth 100000 in
theorem rmake_calls {m : Nat} (h : RM w base Q K g (m : Int) ls ts mv shV thV) (hf : RF (m : Int) ls ts) (hbase : base ≤ w.heap.size) (s n : Int) :
    Calls Try.prog 27 #[.pointer (some ⟨g, 0, none⟩), .int .i64 s, .int .i64 n] w fun e w' => e = .returned (.int .i64 (makeF m (cvt ls) (ts.map (·.t)) s n).2) ∧ ∃ ts' thV', ts'.map (·.t) = (makeF m (cvt ls) (ts.map (·.t)) s n).1 ∧ RM w' base (PX Q w w') K g (m : Int) ls ts' mv shV thV' ∧ RF (m : Int) ls ts' ∧ Chg Q w w' := by
  have HM := Aside0.mk h
  have HF := Aside0.mk hf
  have H26 := Aside0.mk (rsize_calls h hf s n)
  have H31 : Aside0 (∀ wx, Below w.heap.size w wx → Calls Try.prog 31 #[.pointer (some ⟨g, 0, none⟩)] wx fun e w' => e = .returned (.int .i64 (m - sumT (cvt ls) (ts.map (·.t)))) ∧ Below wx.heap.size wx w') := ⟨fun wx hb => rfree_calls (h.below hb) hf⟩
  have hroom := hf.room
  have hb1 := hf.bnd.1
  have hb2 := hf.bnd.2
  have hzle := size_le (cvt ls) s n hf.cvl
  have hzlo : -1 ≤ sizeF (cvt ls) s n := by unfold sizeF; split; omega; split <;> omega
  have HNO : Aside0 (∀ w5, Below w.heap.size w w5 → makeF m (cvt ls) (ts.map (·.t)) s n = (ts.map (·.t), 0) → (.returned (.int .i64 0) : Ending) = .returned (.int .i64 (makeF m (cvt ls) (ts.map (·.t)) s n).2) ∧ ∃ ts' thV', ts'.map (·.t) = (makeF m (cvt ls) (ts.map (·.t)) s n).1 ∧ RM w5 base (PX Q w w5) K g (m : Int) ls ts' mv shV thV' ∧ RF (m : Int) ls ts' ∧ Chg Q w w5) := ⟨fun w5 hb e => ⟨by rw [e], ts, thV, by rw [e], h.px hb, hf, Chg.of_below hb⟩⟩
  by_cases hz : sizeF (cvt ls) s n < 0
  · have HE : Aside0 (makeF m (cvt ls) (ts.map (·.t)) s n = (ts.map (·.t), 0)) := ⟨by unfold makeF; rw [if_pos (.inl hz)]⟩
    clear h hf
    generalize sizeF (cvt ls) s n = z at *
    have hz' : decide (z < 0) = true := by simp; omega
    go_enter Try.func27, Try.ntmps27
    go_wp2_with (first | (go_at_call 26; (with_reducible refine (H26.out).mono ?_); rintro e w5 ⟨rfl, hb5⟩; have HB := Aside0.mk hb5; clear hb5))
    (try go_ret)
    exact HNO.out _ HB.out HE.out
  have hz' : decide (sizeF (cvt ls) s n < 0) = false := by simp; omega
  by_cases hfr : freeF m (cvt ls) (ts.map (·.t)) < sizeF (cvt ls) s n
  · have HE : Aside0 (makeF m (cvt ls) (ts.map (·.t)) s n = (ts.map (·.t), 0)) := ⟨by unfold makeF; rw [if_pos (.inr hfr)]⟩
    unfold freeF at hfr
    clear h hf hz
    generalize sizeF (cvt ls) s n = z at *
    generalize (m : Int) - sumT (cvt ls) (ts.map (·.t)) = fr at *
    have hfr' : decide (fr < z) = true := by simp; omega
    go_enter Try.func27, Try.ntmps27
    go_wp2_with (first | (go_at_call 26; (with_reducible refine (H26.out).mono ?_); rintro e w5 ⟨rfl, hb5⟩; have HB := Aside0.mk hb5; clear hb5) | ((try (refine gate_guard (by rfl) ?_; dsimp only)); go_at_call 31; (with_reducible refine (H31.out _ HB.out).mono ?_); rintro e w6 ⟨rfl, hb6⟩; have HB6 := Aside0.mk (bel_then HB.out hb6); clear hb6))
    (try go_ret)
    exact HNO.out _ HB6.out HE.out
  obtain ⟨ok, htz, hs0, hs1, hn⟩ := new_ok hf.cvl hz
  obtain ⟨k, rfl⟩ : ∃ k : Nat, s = k := ⟨s.toNat, by omega⟩
  rw [cv_len] at hs1
  have hk : k < ls.length := by omega
  obtain ⟨l, hl⟩ : ∃ l, ls[k]? = some l := ⟨_, List.getElem?_eq_getElem hk⟩
  have HE : Aside0 (makeF m (cvt ls) (ts.map (·.t)) k n = (ts.map (·.t) ++ [newT (cvt ls) k n], ((1 + sumT (cvt ls) (ts.map (·.t)) : Nat) : Int))) := ⟨by unfold makeF; rw [if_neg (by omega)]; rfl⟩
  have hxs : (newT (cvt ls) k n).xs = List.replicate (newT (cvt ls) k n).xs.length 0 := by unfold newT; simp
  have hsx : (newT (cvt ls) k n).s = k := by unfold newT; simp
  have hA : l.x.f1 = true → n = ((newT (cvt ls) k n).xs.length : Int) := fun hb => by
    have h1 : (shOf (cvt ls) k).f1 = true := by rw [cv_at hl, cv_f1]; exact hb
    have h2 := (hn (by rw [Int.toNat_natCast]; exact h1)).1
    unfold newT
    rw [List.length_replicate, Int.toNat_natCast, if_pos h1]
    omega
  have hO : l.x.f1 = false → sizeF (cvt ls) k n - 1 = ((newT (cvt ls) k n).xs.length : Int) := fun hb => by
    have h1 : (shOf (cvt ls) k).f1 = false := by rw [cv_at hl, cv_f1]; exact hb
    rw [← htz]
    unfold tsz
    rw [hsx, h1]
    simp
    omega
  have HC : Aside0 (∀ w5, Below w.heap.size w w5 → w5.cell? ⟨g, 0, none⟩ = some (.int .i64 m) ∧ w5.cell? ⟨g, 1, none⟩ = some shV ∧ w5.cell? ⟨g, 2, none⟩ = some thV ∧ ∃ ad c, shV = .slice (some ad) ls.length c ∧ w5.cell? ⟨(ad.add (k * 2)).block, (ad.add (k * 2)).off + 1, none⟩ = some (.bool l.x.f1)) := ⟨fun w5 hb => by
    have hM := h.below hb
    obtain ⟨ad, c', e, y0, y1⟩ := hM.shape hl
    exact ⟨hM.c0, hM.c1, hM.c2, ad, c', e, y1⟩⟩
  have hfr' : decide (freeF m (cvt ls) (ts.map (·.t)) < sizeF (cvt ls) k n) = false := by simp; omega
  have HT := Aside0.mk ok
  have hsum : ((sumT (cvt ls) (ts.map (·.t)) : Nat) : Int) + (tsz (cvt ls) (newT (cvt ls) k n) : Int) ≤ m := by unfold freeF at hfr; omega
  have HSUM := Aside0.mk hsum
  have HXS := Aside0.mk hxs
  have HSX := Aside0.mk hsx
  obtain ⟨A0, c0', hV⟩ := h.thL
  subst hV
  unfold freeF at hfr'
  have hfew := hf.few
  have hown := ok.2.2
  clear h hf hz hfr hn hl hs0 htz ok hsum hsx hxs
  generalize hT : newT (cvt ls) k n = T at *
  generalize hown2 : T.xs.length = own at *
  generalize sizeF (cvt ls) k n = z at *
  generalize hS : sumT (cvt ls) (ts.map (·.t)) = S at *
  have q1 : (0 : Int) ≤ (S : Int) := by omega
  cases hb : l.x.f1 with
  | true =>
    have hn := hA hb
    rw [hb] at HC
    clear hA hO
    subst hn
    have m1 : ∀ w : World, (Instr.makeSlice 59 (.int .i64 (own : Int)) (.int .i64 (own : Int))).run Try.prog w = .ok (.slice (some ⟨w.heap.size, 0, none⟩) own own) (w.alloc (.cells (madeCells #[.int .i64 0] own) 2)) := fun w => run_make_row' 59 2 (.int .i64 0) 8 Try.underlying59 info2b rfl .i64 .i64 own (by omega) (by omega) w
    go_enter Try.func27, Try.ntmps27
    go_wp2_with (first | (go_at_call 26; (with_reducible refine (H26.out).mono ?_); rintro e w5 ⟨rfl, hb5⟩; have HB := Aside0.mk hb5; clear hb5) | ((try (refine gate_guard (by rfl) ?_; dsimp only)); go_at_call 31; (with_reducible refine (H31.out _ HB.out).mono ?_); rintro e w6 ⟨rfl, hb6⟩; have HB6 := Aside0.mk (bel_then HB.out hb6); clear hb6; obtain ⟨c0, _⟩ := HC.out _ HB6.out))
    go_region_held3 (fun w' => w'.cell? ⟨g, 0, none⟩ = some (.int .i64 m)) (first | go_keep | (exact (HC.out _ HB7.out).1)) (first | (go_at_call 31; refine (H31.out _ (below_drew HB6.out)).mono ?_; rintro e w7 ⟨rfl, hb7⟩; have HB7 := Aside0.mk (bel_then (below_drew HB6.out) hb7); clear hb7))
    have hw1 : IntKind.i64.wrap (1 + (m : Int)) = 1 + (m : Int) := IntWalk.i64_in _ (by omega)
    have hw2 : IntKind.i64.wrap (1 + (m : Int) - ((m : Int) - (S : Int))) = ((1 + S : Nat) : Int) := by rw [IntWalk.i64_in _ (by omega)]; omega
    rw [hw1, hw2]
    clear hw1 hw2 c0
    generalize ((1 + S : Nat) : Int) = r at *
    obtain ⟨c0, c1, c2, ad, c', rfl, y1⟩ := HC.out _ HB7.out
    have q5 : (k : Int) < (ls.length : Int) := by omega
    go_wp2_with fail
    have HD : Aside0 (Below w.heap.size w ((w7.alloc (.cells (madeCells #[.int .i64 0] own) 2)).drew)) := ⟨below_step HB7.out (below_drew (below_alloc (Below.refl _ _) _))⟩
    have HD2 : Aside0 (Below w.heap.size w (((w7.alloc (.cells (madeCells #[.int .i64 0] own) 2)).alloc (.cells #[.int .i64 k, .slice (some ⟨w7.heap.size, 0, none⟩) own own] 76)).drew)) := ⟨below_step HB7.out (below_drew (below_alloc (below_alloc (Below.refl _ _) _) _))⟩
    have HK9 : Aside0 (∀ w9 : World, ((w7.alloc (.cells (madeCells #[.int .i64 0] own) 2)).drew).grownBy w9 (Value.ownBlock (.slice A0 ts.length c0')) → Blk w9 g 55 #[.int .i64 (m : Int), .slice (some ad) ls.length c', .slice A0 ts.length c0', .int .i64 mv]) := ⟨fun w9 hg9 => by
      have hM := HM.out.below HD.out
      exact hM.box.kept hg9 (own_ne_cells hM.th hM.box (by decide))⟩
    have d1 := (HM.out.below HD.out).c2
    have d2 := (HM.out.below HD2.out).c2
    have HBK : Aside0 (Blk ((w7.alloc (.cells (madeCells #[.int .i64 0] own) 2)).drew) w7.heap.size 2 (wC T.xs)) := ⟨by
      rw [HXS.out, ← made_ints]
      exact (Blk.made w7 2 _).below (below_drew (Below.refl _ _))⟩
    have HG7 : Aside0 (w.heap.size ≤ w7.heap.size) := ⟨HB7.out.size⟩
    go_region_law (first | (refine app_step_sz (W := (w7.alloc (.cells (madeCells #[.int .i64 0] own) 2)).drew) rfl (.tmp 45) (.tmp 50) 53 76 (.agg #[.int .i64 0, .slice none 0 0]) 2 32 (by rfl) Try.underlying53 info76b rfl (by decide) (by rfl) ((HM.out.below HD.out).th) #[.int .i64 k, .slice (some ⟨w7.heap.size, 0, none⟩) own own] 1 (by rfl) (by simp [World.drew]) rfl (fun u hu => by simp at hu; rcases hu with rfl | rfl <;> rfl) (by omega) (by omega) (Nat.le_trans hbase HD.out.size) ?_; intro v9 w9 ho9 hg9 hat9; obtain ⟨A9, c9, rfl⟩ := own_slice' ho9; have k0 := HK9.out _ hg9; have k1 := k0.cell (o := 2) (v := .slice A0 ts.length c0') rfl; have k4 := frozen_of_row _ _ 2 _ _ k0))
    all_goals
      obtain ⟨hb2, hg2, _⟩ := setCell_blk (q := 2) (v := .slice A9 (ts.length + 1) c9) k0 (show (2 : Nat) < 4 by decide)
      have HR := Aside0.mk (HM.out.make (t := ⟨T, w7.heap.size⟩) HD.out (by unfold thC; rw [HSX.out, hown2]; exact ho9) hg9 hat9 hb2 hg2 HBK.out HG7.out)
      clear ho9 hg9 hb2 hg2 k0 k1 k4 d1 d2 c2 c1 c0 hat9
      generalize w9.setCell ⟨g, 2, none⟩ (.slice A9 (ts.length + 1) c9) = w3 at *
      go_wp2_with fail
      (try go_ret)
      rw [HE.out]
      refine ⟨rfl, _, _, by simp, HR.out.1, HF.out.make HT.out (by rw [hS]; exact HSUM.out) (fun x hx => ?_), HR.out.2⟩
      dsimp only at hx
      rw [HXS.out] at hx
      rw [List.eq_of_mem_replicate hx]; exact ⟨by decide, by decide⟩
  | false =>
    have hn := hO hb
    rw [hb] at HC
    clear hA hO
    have m1 : ∀ w : World, (Instr.makeSlice 59 (.int .i64 (own : Int)) (.int .i64 (own : Int))).run Try.prog w = .ok (.slice (some ⟨w.heap.size, 0, none⟩) own own) (w.alloc (.cells (madeCells #[.int .i64 0] own) 2)) := fun w => run_make_row' 59 2 (.int .i64 0) 8 Try.underlying59 info2b rfl .i64 .i64 own (by omega) (by omega) w
    go_enter Try.func27, Try.ntmps27
    go_wp2_with (first | (go_at_call 26; (with_reducible refine (H26.out).mono ?_); rintro e w5 ⟨rfl, hb5⟩; have HB := Aside0.mk hb5; clear hb5) | ((try (refine gate_guard (by rfl) ?_; dsimp only)); go_at_call 31; (with_reducible refine (H31.out _ HB.out).mono ?_); rintro e w6 ⟨rfl, hb6⟩; have HB6 := Aside0.mk (bel_then HB.out hb6); clear hb6; obtain ⟨c0, _⟩ := HC.out _ HB6.out))
    go_region_held3 (fun w' => w'.cell? ⟨g, 0, none⟩ = some (.int .i64 m)) (first | go_keep | (exact (HC.out _ HB7.out).1)) (first | (go_at_call 31; refine (H31.out _ (below_drew HB6.out)).mono ?_; rintro e w7 ⟨rfl, hb7⟩; have HB7 := Aside0.mk (bel_then (below_drew HB6.out) hb7); clear hb7))
    have hw1 : IntKind.i64.wrap (1 + (m : Int)) = 1 + (m : Int) := IntWalk.i64_in _ (by omega)
    have hw2 : IntKind.i64.wrap (1 + (m : Int) - ((m : Int) - (S : Int))) = ((1 + S : Nat) : Int) := by rw [IntWalk.i64_in _ (by omega)]; omega
    rw [hw1, hw2]
    clear hw1 hw2 c0
    generalize ((1 + S : Nat) : Int) = r at *
    obtain ⟨c0, c1, c2, ad, c', rfl, y1⟩ := HC.out _ HB7.out
    have q5 : (k : Int) < (ls.length : Int) := by omega
    go_wp2_with fail
    have HD : Aside0 (Below w.heap.size w ((w7.alloc (.cells (madeCells #[.int .i64 0] own) 2)).drew)) := ⟨below_step HB7.out (below_drew (below_alloc (Below.refl _ _) _))⟩
    have HD2 : Aside0 (Below w.heap.size w (((w7.alloc (.cells (madeCells #[.int .i64 0] own) 2)).alloc (.cells #[.int .i64 k, .slice (some ⟨w7.heap.size, 0, none⟩) own own] 76)).drew)) := ⟨below_step HB7.out (below_drew (below_alloc (below_alloc (Below.refl _ _) _) _))⟩
    have HK9 : Aside0 (∀ w9 : World, ((w7.alloc (.cells (madeCells #[.int .i64 0] own) 2)).drew).grownBy w9 (Value.ownBlock (.slice A0 ts.length c0')) → Blk w9 g 55 #[.int .i64 (m : Int), .slice (some ad) ls.length c', .slice A0 ts.length c0', .int .i64 mv]) := ⟨fun w9 hg9 => by
      have hM := HM.out.below HD.out
      exact hM.box.kept hg9 (own_ne_cells hM.th hM.box (by decide))⟩
    have d1 := (HM.out.below HD.out).c2
    have d2 := (HM.out.below HD2.out).c2
    have HBK : Aside0 (Blk ((w7.alloc (.cells (madeCells #[.int .i64 0] own) 2)).drew) w7.heap.size 2 (wC T.xs)) := ⟨by
      rw [HXS.out, ← made_ints]
      exact (Blk.made w7 2 _).below (below_drew (Below.refl _ _))⟩
    have HG7 : Aside0 (w.heap.size ≤ w7.heap.size) := ⟨HB7.out.size⟩
    go_region_law (first | (refine app_step_sz (W := (w7.alloc (.cells (madeCells #[.int .i64 0] own) 2)).drew) rfl (.tmp 45) (.tmp 50) 53 76 (.agg #[.int .i64 0, .slice none 0 0]) 2 32 (by rfl) Try.underlying53 info76b rfl (by decide) (by rfl) ((HM.out.below HD.out).th) #[.int .i64 k, .slice (some ⟨w7.heap.size, 0, none⟩) own own] 1 (by rfl) (by simp [World.drew]) rfl (fun u hu => by simp at hu; rcases hu with rfl | rfl <;> rfl) (by omega) (by omega) (Nat.le_trans hbase HD.out.size) ?_; intro v9 w9 ho9 hg9 hat9; obtain ⟨A9, c9, rfl⟩ := own_slice' ho9; have k0 := HK9.out _ hg9; have k1 := k0.cell (o := 2) (v := .slice A0 ts.length c0') rfl; have k4 := frozen_of_row _ _ 2 _ _ k0))
    all_goals
      obtain ⟨hb2, hg2, _⟩ := setCell_blk (q := 2) (v := .slice A9 (ts.length + 1) c9) k0 (show (2 : Nat) < 4 by decide)
      have HR := Aside0.mk (HM.out.make (t := ⟨T, w7.heap.size⟩) HD.out (by unfold thC; rw [HSX.out, hown2]; exact ho9) hg9 hat9 hb2 hg2 HBK.out HG7.out)
      clear ho9 hg9 hb2 hg2 k0 k1 k4 d1 d2 c2 c1 c0 hat9
      generalize w9.setCell ⟨g, 2, none⟩ (.slice A9 (ts.length + 1) c9) = w3 at *
      go_wp2_with fail
      (try go_ret)
      rw [HE.out]
      refine ⟨rfl, _, _, by simp, HR.out.1, HF.out.make HT.out (by rw [hS]; exact HSUM.out) (fun x hx => ?_), HR.out.2⟩
      dsimp only at hx
      rw [HXS.out] at hx
      rw [List.eq_of_mem_replicate hx]; exact ⟨by decide, by decide⟩
end
end Go.Proofs.Ytibhjlmffgabgaa.PAll
