import Derived.Test.YtibhjlmffgabgaaZRefRead
import Derived.Deep.RegionLaw
import Derived.Maps.AppendAt
namespace Go.Proofs.Ytibhjlmffgabgaa.PAll
open Go.RowKit Go.Proofs.YtibhjlmffgabgaaW.PrintWords Go.Proofs.YtibhjlmffgabgaaW.PrintLast Go.Proofs.YtibhjlmffgabgaaW.PrintMore
open Go.Proofs.Ytibhjlmffgabgaa.MapInt
set_option linter.unusedVariables false
set_option linter.unusedSimpArgs false
theorem flat_set {α : Type} (f : α → List Value) : ∀ (l : List α) (k : Nat) (t u : α), l[k]? = some t → f u = f t → (l.set k u).flatMap f = l.flatMap f
  | [], _, _, _, h, _ => by simp at h
  | a :: l, 0, t, u, h, hf => by
    simp at h; subst h
    rw [List.set_cons_zero, List.flatMap_cons, List.flatMap_cons, hf]
  | a :: l, k + 1, t, u, h, hf => by
    rw [List.getElem?_cons_succ] at h
    rw [List.set_cons_succ, List.flatMap_cons, List.flatMap_cons, flat_set f l k t u h hf]
theorem map_set_same {α β : Type} (f : α → β) (l : List α) (k : Nat) (t u : α) (h : l[k]? = some t) (hf : f u = f t) : (l.set k u).map f = l.map f := by
  apply List.ext_getElem?
  intro j
  rw [List.getElem?_map, List.getElem?_map, List.getElem?_set]
  split
  · rename_i e; subst e
    rw [h]
    split
    · simp [hf]
    · rename_i h2; exact absurd (List.getElem?_eq_some_iff.1 h).1 h2
  · rfl
theorem sum_set (shs : List S65) (T : List Thg) (k : Nat) (t u : Thg) (h : T[k]? = some t) (hu : tsz shs u = tsz shs t) : sumT shs (T.set k u) = sumT shs T := by
  unfold sumT; rw [map_set_same (tsz shs) T k t u h hu]
theorem set_ix {shs : List S65} : ∀ (T : List Thg) (b k : Nat) (t : Thg) (i x : Int), T[k]? = some t → setT shs T b ((b + sumT shs (T.take k) : Nat) : Int) i x = T.set k (t.put i x)
  | [], _, _, _, _, _, h => by simp at h
  | u :: T, b, 0, t, i, x, h => by
    simp at h; subst h
    simp [setT, sumT]
  | u :: T, b, k + 1, t, i, x, h => by
    rw [List.getElem?_cons_succ] at h
    have h1 := set_ix (shs := shs) T (b + tsz shs u) k t i x h
    have h2 := tsz_pos shs u
    have h3 : sumT shs ((u :: T).take (k + 1)) = tsz shs u + sumT shs (T.take k) := by unfold sumT; simp
    unfold setT
    rw [if_neg (by rw [h3]; omega), h3, ← Nat.add_assoc, List.set_cons_succ]
    congr 1
theorem nd_ne {ts : List TH} (hn : (ts.map (·.b)).Nodup) {i j : Nat} {t u : TH} (hi : ts[i]? = some t) (hj : ts[j]? = some u) (h : i ≠ j) : t.b ≠ u.b := by
  intro e
  have h1 : (ts.map (·.b))[i]? = some t.b := by rw [List.getElem?_map, hi]; rfl
  have h2 : (ts.map (·.b))[j]? = some t.b := by rw [List.getElem?_map, hj, e]; rfl
  obtain ⟨l1, e1⟩ := List.getElem?_eq_some_iff.1 h1
  obtain ⟨l2, e2⟩ := List.getElem?_eq_some_iff.1 h2
  have hp := List.pairwise_iff_getElem.1 hn
  rcases Nat.lt_or_gt_of_ne h with h3 | h3
  · exact hp i j l1 l2 h3 (e1.trans e2.symm)
  · exact hp j i l2 l1 h3 (e2.trans e1.symm)
section
variable {w w2 : World} {base g : Nat} {Q K : Nat → Prop} {most mv : Int} {ls : List SH} {ts : List TH} {shV thV : Value}
theorem RM.putw (h : RM w base Q K g most ls ts mv shV thV) {k : Nat} {t : TH} (ht : ts[k]? = some t) {xs : List Int} (hl : xs.length = t.t.xs.length) (hb : Blk w2 t.b 2 (wC xs)) (hg : w.grownBy w2 (some t.b)) : RM w2 base Q K g most ls (ts.set k ⟨⟨t.t.s, xs⟩, t.b⟩) mv shV thV := by
  have hm := List.mem_of_getElem? ht
  have hw := (h.wds t hm).1
  have hq := (h.wds t hm).2
  have hth : thC ⟨⟨t.t.s, xs⟩, t.b⟩ = thC t := by unfold thC; dsimp only; rw [hl]
  refine ⟨h.box.kept hg (fun e => h.box.ne_type hw (by decide) (by injection e)), own_kept h.sh hg (fun k hk e => own_ne_cells h.sh hw (by decide) (e ▸ hk.symm)), ?_, fun l hl => ⟨Kd.F_step (h.kin l hl).1 (fun k ho hlk => hg.block k hlk (fun e => h.qk k (by injection e with e; rw [e]; exact hq) ho)), (h.kin l hl).2⟩, ?_, ?_, h.qg, h.qs, h.qt, fun k hk => Nat.lt_of_lt_of_le (h.lt k hk) hg.size, fun k hk => Nat.lt_of_lt_of_le (h.kl k hk) hg.size, h.qk⟩
  · rw [List.length_set, flat_set thC ts k t _ ht hth]
    exact own_kept h.th hg (fun k hk e => own_ne_cells h.th hw (by decide) (e ▸ hk.symm))
  · intro u hu
    obtain ⟨j, hj⟩ := List.getElem?_of_mem hu
    rw [List.getElem?_set] at hj
    split at hj
    · split at hj
      · injection hj with hj; subst hj
        exact ⟨hb, hq⟩
      · cases hj
    · rename_i hkj
      have hu2 := List.mem_of_getElem? hj
      exact ⟨(h.wds u hu2).1.kept hg (fun e => nd_ne h.nd hj ht (fun e2 => hkj e2.symm) (by injection e)), (h.wds u hu2).2⟩
  · rw [map_set_same (·.b) ts k t ⟨⟨t.t.s, xs⟩, t.b⟩ ht rfl]; exact h.nd
theorem RF.put (hf : RF most ls ts) {k : Nat} {t : TH} (ht : ts[k]? = some t) {xs : List Int} (hl : xs.length = t.t.xs.length) (hx : ∀ x ∈ xs, inR x) : RF most ls (ts.set k ⟨⟨t.t.s, xs⟩, t.b⟩) := by
  have hz : tsz (cvt ls) ⟨t.t.s, xs⟩ = tsz (cvt ls) t.t := by unfold tsz; dsimp only; rw [hl]
  have hmem : ∀ u ∈ ts.set k ⟨⟨t.t.s, xs⟩, t.b⟩, u = ⟨⟨t.t.s, xs⟩, t.b⟩ ∨ u ∈ ts := fun u hu => by
    rcases List.mem_or_eq_of_mem_set hu with h | h
    · exact .inr h
    · exact .inl h
  have hm := List.mem_of_getElem? ht
  refine ⟨hf.bnd, ?_, ?_, hf.arr, hf.shl, ?_, hf.len⟩
  · rw [List.map_set, sum_set (cvt ls) (ts.map (·.t)) k t.t _ (by rw [List.getElem?_map, ht]; rfl) hz]; exact hf.room
  · intro u hu
    rcases hmem u hu with rfl | h
    · have := hf.things t hm
      unfold okT at this ⊢
      dsimp only
      rw [hl]; exact this
    · exact hf.things u h
  · intro u hu
    rcases hmem u hu with rfl | h
    · exact hx
    · exact hf.wrd u h
set_option maxHeartbeats 8000000 in
set_option maxRecDepth 100000 in
theorem rset_calls (h : RM w base Q K g most ls ts mv shV thV) (hf : RF most ls ts) (a i x : Int) (hx : inR x) :
    Calls Try.prog 28 #[.pointer (some ⟨g, 0, none⟩), .int .i64 a, .int .i64 i, .int .i64 x] w fun e w' => e = .returned (.tuple #[]) ∧ ∃ ts', ts'.map (·.t) = setT (cvt ls) (ts.map (·.t)) 1 a i x ∧ RM w' base Q K g most ls ts' mv shV thV ∧ RF most ls ts' ∧ Chg Q w w' := by
  obtain ⟨k, hk⟩ := FindR.ex ls ts a
  have H42 := Aside0.mk (rfind_at h hf hk)
  have HM := Aside0.mk h
  have HF := Aside0.mk hf
  obtain ⟨A, c, hV⟩ := h.thL
  subst hV
  clear h hf
  have HSAME : Aside0 (∀ w5, Below w.heap.size w w5 → setT (cvt ls) (ts.map (·.t)) 1 a i x = ts.map (·.t) → ∃ ts', ts'.map (·.t) = setT (cvt ls) (ts.map (·.t)) 1 a i x ∧ RM w5 base Q K g most ls ts' mv shV (.slice A ts.length c) ∧ RF most ls ts' ∧ Chg Q w w5) := ⟨fun w5 hb e => ⟨ts, e.symm, HM.out.below hb, HF.out, Chg.of_below hb⟩⟩
  obtain ⟨rfl, hn⟩ | ⟨j, t, rfl, ht, hn, ha⟩ := hk
  · have HE := Aside0.mk (set_none (shs := cvt ls) (ts.map (·.t)) 1 a i x hn)
    clear hn
    go_enter Try.func28, Try.ntmps28
    go_wp2_with (first | (go_at_call 42; (with_reducible refine (H42.out).mono ?_); rintro e w5 ⟨rfl, hb5⟩; have HB := Aside0.mk hb5; clear hb5))
    exact bodyPost_end (results_none rfl _ _ _) rfl ⟨rfl, HSAME.out _ HB.out HE.out⟩
  · have hj := (List.getElem?_eq_some_iff.1 ht).1
    have q1 : (j : Int) < (ts.length : Int) := by omega
    have q2 : decide ((0 : Int) ≤ (j : Int)) = true := by simp
    have HT := Aside0.mk ht
    have hout := set_out (shs := cvt ls) (ts.map (·.t)) 1 a i x t.t hn
    have HI : Aside0 (setT (cvt ls) (ts.map (·.t)) 1 a i x = (ts.map (·.t)).set j (t.t.put i x)) := ⟨by rw [ha]; exact set_ix (shs := cvt ls) (ts.map (·.t)) 1 j t.t i x (by rw [List.getElem?_map, ht]; rfl)⟩
    clear hn ht ha
    by_cases h1 : i < 0
    · have HE := Aside0.mk (hout (.inl h1))
      have h1' : decide ((0 : Int) ≤ i) = false := by simp; omega
      clear hout
      go_enter Try.func28, Try.ntmps28
      go_wp2_with (first | (go_at_call 42; (with_reducible refine (H42.out).mono ?_); rintro e w5 ⟨rfl, hb5⟩; have HB := Aside0.mk hb5; clear hb5))
      exact bodyPost_end (results_none rfl _ _ _) rfl ⟨rfl, HSAME.out _ HB.out HE.out⟩
    obtain ⟨n, rfl⟩ : ∃ n : Nat, i = n := ⟨i.toNat, by omega⟩
    have h1' : decide ((0 : Int) ≤ (n : Int)) = true := by simp
    clear h1
    have HC : Aside0 (∀ w5, Below w.heap.size w w5 → w5.cell? ⟨g, 2, none⟩ = some (.slice A ts.length c) ∧ ∃ ad, A = some ad ∧ w5.cell? (ad.add (j * 2)) = some (.int .i64 (t.t.s : Int)) ∧ w5.cell? ⟨(ad.add (j * 2)).block, (ad.add (j * 2)).off + 1, none⟩ = some (.slice (some ⟨t.b, 0, none⟩) t.t.xs.length t.t.xs.length)) := ⟨fun w5 hb => by
      have hM := HM.out.below hb
      obtain ⟨ad, c', e, y0, y1⟩ := hM.thing HT.out
      injection e with e1 e2 e3
      exact ⟨hM.c2, ad, e1, y0, y1⟩⟩
    by_cases h2 : n < t.t.xs.length
    · have q3 : (n : Int) < (t.t.xs.length : Int) := by omega
      have h2' : decide (n < t.t.xs.length) = true := by simp; omega
      have HP : Aside0 (t.t.put (n : Int) x = ⟨t.t.s, t.t.xs.set n x⟩) := ⟨by unfold Thg.put; rw [if_pos (by omega), Int.toNat_natCast]⟩
      clear hout
      go_enter Try.func28, Try.ntmps28
      go_wp2_with (first | (go_at_call 42; (with_reducible refine (H42.out).mono ?_); rintro e w5 ⟨rfl, hb5⟩; have HB := Aside0.mk hb5; obtain ⟨c2, ad, rfl, y0, y1⟩ := HC.out _ hb5; have HM5 := Aside0.mk (HM.out.below hb5); clear hb5) | ((with_reducible refine gate_store (t := 2) (p := 41) (v := .tmp 40) rfl ?_); refine cell_store rfl 2 (.tmp 41) (.tmp 40) rfl oi2 (q := n) (v := .int .i64 x) rfl rfl rfl (HM5.out.wds t (List.mem_of_getElem? HT.out)).1 (by rw [wC_size]; exact h2) ?_; intro w7 hb7 hg7 _; rw [wC_set] at hb7; have HM7 := Aside0.mk (HM5.out.putw HT.out (List.length_set ..) hb7 hg7); have HG := Aside0.mk hg7; clear hb7 hg7 c2 y0 y1))
      have HQ := (HM.out.wds t (List.mem_of_getElem? HT.out)).2
      refine bodyPost_end (results_none rfl _ _ _) rfl ⟨rfl, _, ?_, HM7.out, HF.out.put HT.out (List.length_set ..) (fun y hy => ?_), (Chg.of_below HB.out).trans (Chg.of_grown HG.out (.inl HQ)) (fun k hk => .inl hk)⟩
      · rw [HI.out, List.map_set, HP.out]
      · rcases List.mem_or_eq_of_mem_set hy with h | h
        · exact HF.out.wrd t (List.mem_of_getElem? HT.out) y h
        · rw [h]; exact hx
    · have h2' : decide (n < t.t.xs.length) = false := by simp; omega
      have HE := Aside0.mk (hout (.inr (by omega)))
      clear hout
      go_enter Try.func28, Try.ntmps28
      go_wp2_with (first | (go_at_call 42; (with_reducible refine (H42.out).mono ?_); rintro e w5 ⟨rfl, hb5⟩; have HB := Aside0.mk hb5; obtain ⟨c2, ad, rfl, y0, y1⟩ := HC.out _ hb5; clear hb5))
      exact bodyPost_end (results_none rfl _ _ _) rfl ⟨rfl, HSAME.out _ HB.out HE.out⟩
def PX (Q : Nat → Prop) (w w' : World) (k : Nat) : Prop := Q k ∨ (w.heap.size ≤ k ∧ k < w'.heap.size)
theorem app_step_at {P : Program} {ops : Array Oper} {o : Oper} {a : Act} {Kc : Act → World → Prop} {Q' : Exit → Act → World → Prop} {E : Prop} {W : World} (hgd : o.guard = none) (s x : Operand) (t e : TypeId) (z : Value) (size bytes : Nat) (ho : o.op = .call { callee := .builtin .append, args := #[s, x], argTypes := #[t, t] })
    (ht : P.underlying t = some (.slice e)) (hinfo : (P.info? e).map (fun i => (i.zero, i.size, i.bytes)) = some (some z, size, bytes)) (hzs : z.cells.size = size) (hsz : 0 < size)
    {B : Nat} {v : Value} {n : Nat} {xs : List Value} (hs : a.eval s = v) (hown : W.ownsRow B e size v n xs) (cs : Array Value) (m : Nat) (hx : a.eval x = .slice (some ⟨W.heap.size, 0, none⟩) m m)
    (hl : cs.size = m * size) (h1 : ∀ u ∈ cs.toList, u.oneCell' = true) (hlen : n + m ≤ 9223372036854775807) (hbytes : (n + m) * bytes ≤ 140737488355328) (hB : B ≤ W.heap.size)
    (hK : ∀ v' w', w'.ownsRow B e size v' (n + m) (xs ++ cs.toList) → W.grownBy w' v.ownBlock → (v'.ownBlock = v.ownBlock ∨ v'.ownBlock = some (W.heap.size + 1)) → Kc (a.put o.dst v') w') :
    if Region.wanted o (yielded ops a.tmps) = true then Oper.wp P o a (W.alloc (.cells cs e)) Kc Q' else E := by
  have hw : Region.wanted o (yielded ops a.tmps) = true := by simp [Region.wanted, hgd]
  rw [if_pos hw]
  obtain ⟨i, hi, hz, hsize, hby⟩ : ∃ i, P.info? e = some i ∧ i.zero = some z ∧ i.size = size ∧ i.bytes = bytes := by
    cases h : P.info? e with
    | none => rw [h] at hinfo; cases hinfo
    | some i =>
      rw [h] at hinfo
      simp only [Option.map_some, Option.some.injEq, Prod.mk.injEq] at hinfo
      exact ⟨i, rfl, hinfo.1, hinfo.2.1, hinfo.2.2⟩
  have hnews : ∀ j u, cs.toList[j]? = some u → (W.alloc (.cells cs e)).cell? ((⟨W.heap.size, 0, none⟩ : Addr).add j) = some u := by
    intro j u hu
    have hadd : ∀ j : Nat, (⟨W.heap.size, 0, none⟩ : Addr).add j = ⟨W.heap.size, j, none⟩ := by
      intro j
      unfold Addr.add
      split
      · rename_i h; subst h; rfl
      · simp
    rw [hadd]
    simp [World.cell?, World.alloc, -World.alloc_eq]
    simpa using hu
  obtain ⟨v', w', hr, h2, h3, h4, h5⟩ := run_append_own_at (P := P) (W.alloc (.cells cs e)) B t o.type e i z size bytes ht hi hz hsize hby hzs hsz v n xs (own_alloc' hown _) ⟨W.heap.size, 0, none⟩ m m cs.toList (by simpa using hl) hnews h1 (by unfold maxLen; exact hlen) hbytes (by simp; omega)
  unfold Oper.wp execOp
  simp only [ho, resolve, invoke, builtin, Sem.run_bind, Sem.run_pure, Result.andThen_ok, List.map_toArray, List.map_cons, List.map_nil, hs, hx, hr]
  exact hK v' w' h2 (grown_alloc h3) (by simpa using h5)
theorem RM.tell (h : RM w base Q K g most ls ts mv shV thV) {W w9 w10 : World} {v' : Value} {l : SH} (hb : Below w.heap.size w W) (ho : w9.ownsRow base 51 2 v' (ls.length + 1) (ls.flatMap shC ++ shC l)) (hg : W.grownBy w9 shV.ownBlock) (hat : v'.ownBlock = shV.ownBlock ∨ v'.ownBlock = some (W.heap.size + 1))
    (hb2 : Blk w10 g 55 #[.int .i64 most, v', thV, .int .i64 mv]) (hg2 : w9.grownBy w10 (some g)) (hk : Kd.F (Kd.int .i64) w K l.A l.x.f0.length l.x.f0 ∧ l.x.f0.length ≤ l.c) : RM w10 base (PX Q w w10) K g most (ls ++ [l]) ts mv v' thV ∧ Chg Q w w10 := by
  have s1 := hb.size
  have s2 := hg.size
  have s3 := hg2.size
  have hkeep : ∀ k, k < w.heap.size → k ≠ g → some k ≠ shV.ownBlock → w10.heap[k]? = w.heap[k]? := fun k hk h1 h2 => by
    rw [hg2.block k (by omega) (fun e => h1 (by injection e)), hg.block k (by omega) h2, hb.block k hk]
  have hgo : some g ≠ shV.ownBlock := own_ne_cells h.sh h.box (by decide)
  have hsz : w.heap.size ≤ w10.heap.size := by omega
  have hb9 : Blk w9 g 55 #[.int .i64 most, shV, thV, .int .i64 mv] := (h.box.below hb).kept hg hgo
  have hF : ∀ {A : Option Addr} {n : Nat} {xs : List Int}, Kd.F (Kd.int .i64) w K A n xs → Kd.F (Kd.int .i64) w10 K A n xs := fun hx => Kd.F_step hx (fun k ho hl => hkeep k hl (fun e => h.qk k (e ▸ h.qg) ho) (fun e => h.qk k (h.qs k e.symm) ho))
  refine ⟨⟨hb2, ?_, own_move h.th (fun k e => hkeep k (own_row_lt h.th k e).1 (fun e2 => own_ne_cells h.th h.box (by decide) (e2 ▸ e.symm)) (fun e2 => own_apart h.sh h.th (by decide) k e2.symm e.symm)), ?_, fun t ht => ⟨?_, .inl (h.wds t ht).2⟩, h.nd, .inl h.qg, ?_, fun k e => .inl (h.qt k e), ?_, fun k hkk => Nat.lt_of_lt_of_le (h.kl k hkk) hsz, ?_⟩, ⟨?_, ?_, ?_, hsz, fun k hk hn => hkeep k hk (fun e => hn (e ▸ h.qg)) (fun e => hn (h.qs k e.symm))⟩⟩
  · rw [List.length_append, List.flatMap_append]
    have := own_kept ho hg2 (fun k hk e => own_ne_cells ho hb9 (by decide) (e.symm.trans hk.symm))
    simpa using this
  · intro l' hl'
    rcases List.mem_append.1 hl' with e | e
    · exact ⟨hF (h.kin l' e).1, (h.kin l' e).2⟩
    · simp at e; subst e; exact ⟨hF hk.1, hk.2⟩
  · have hw := (h.wds t ht).1
    unfold Blk
    rw [hkeep t.b hw.lt (fun e => h.box.ne_type hw (by decide) e.symm) (hw.ne_own h.sh (by decide))]
    exact hw
  · intro k e
    rcases hat with h1 | h1
    · exact .inl (h.qs k (h1 ▸ e))
    · rw [h1] at e; injection e with e
      have := (own_row_lt ho k (by rw [h1, e])).1
      exact .inr ⟨by omega, by omega⟩
  · intro k hq
    rcases hq with h1 | h1
    · exact Nat.lt_of_lt_of_le (h.lt k h1) hsz
    · exact h1.2
  · intro k hq hkk
    rcases hq with h1 | h1
    · exact h.qk k h1 hkk
    · have := h.kl k hkk; omega
  · rw [hg2.os, hg.os, hb.os]
  · rw [hg2.tape, hg.tape, hb.tape]
  · rw [hg2.output, hg.output, hb.output]
theorem RF.tell (hf : RF most ls ts) {l : SH} (h1 : l.x.f0.length ≤ 1000) (h2 : l.x.f1 = true → 0 < l.x.f0.length) (h3 : ls.length < 100000) : RF most (ls ++ [l]) ts := by
  have e : cvt (ls ++ [l]) = cvt ls ++ [cvS l.x] := by unfold cvt; simp
  have hT : ∀ t ∈ ts.map (·.t), okT (cvt ls) t := fun t ht => by
    obtain ⟨u, hu, rfl⟩ := List.mem_map.1 ht
    exact hf.things u hu
  refine ⟨hf.bnd, ?_, fun t ht => ?_, fun l' hl' => ?_, fun l' hl' => ?_, hf.wrd, by simp; omega⟩
  · rw [e, (flat_app _ hT).2.2]; exact hf.room
  · rw [e]; exact ok_app (hf.things t ht)
  · rcases List.mem_append.1 hl' with h | h
    · exact hf.arr l' h
    · simp at h; subst h; exact h2
  · rcases List.mem_append.1 hl' with h | h
    · exact hf.shl l' h
    · simp at h; subst h; exact h1
theorem info51b : (Try.prog.info? 51).map (fun i => (i.zero, i.size, i.bytes)) = some (some (.agg #[.slice none 0 0, .bool false]), 2, 32) := by kernel_rfl
set_option maxHeartbeats 8000000 in
set_option maxRecDepth 100000 in
theorem rtell_calls (h : RM w base Q K g most ls ts mv shV thV) (hf : RF most ls ts) (hbase : base ≤ w.heap.size) (h3 : ls.length < 100000) {l : SH} (h1 : l.x.f0.length ≤ 1000) (h2 : l.x.f1 = true → 0 < l.x.f0.length) (hk : Kd.F (Kd.int .i64) w K l.A l.x.f0.length l.x.f0 ∧ l.x.f0.length ≤ l.c) :
    Calls Try.prog 24 #[.pointer (some ⟨g, 0, none⟩), .agg #[.slice l.A l.x.f0.length l.c, .bool l.x.f1]] w fun e w' => e = .returned (.int .i64 (ls.length : Int)) ∧ (∃ v', RM w' base (PX Q w w') K g most (ls ++ [l]) ts mv v' thV) ∧ RF most (ls ++ [l]) ts ∧ Chg Q w w' := by
  have HM := Aside0.mk h
  have HF := Aside0.mk (hf.tell h1 h2 h3)
  have HK := Aside0.mk hk
  have HB := Aside0.mk (below_alloc (Below.refl w.heap.size w) (.cells #[.slice l.A l.x.f0.length l.c, .bool l.x.f1] 51))
  obtain ⟨A, c, hV⟩ := h.shL
  have hM := h.below HB.out
  have c1 := hM.c1
  have f1 := frozen_of_row _ _ 1 _ _ hM.box
  have b0 : (w.alloc (.cells #[.slice l.A l.x.f0.length l.c, .bool l.x.f1] 51)).cell? ⟨w.heap.size, 0, none⟩ = some (.slice l.A l.x.f0.length l.c) := (Blk.made w 51 _).cell rfl
  have b1 : (w.alloc (.cells #[.slice l.A l.x.f0.length l.c, .bool l.x.f1] 51)).cell? ⟨w.heap.size, 1, none⟩ = some (.bool l.x.f1) := (Blk.made w 51 _).cell rfl
  have HL := Aside0.mk h3
  subst hV
  clear h hf h1 h2 hk hM
  generalize hlA : l.A = lA at *
  generalize hlc : l.c = lc at *
  generalize hln : l.x.f0.length = ln at *
  generalize hlb : l.x.f1 = lb at *
  go_enter Try.func24, Try.ntmps24
  go_wp2_with fail
  have HX : Aside0 (Blk (w.alloc (.cells #[.slice lA ln lc, .bool lb] 51)) w.heap.size 51 #[.slice lA ln lc, .bool lb]) := ⟨Blk.made w 51 _⟩
  generalize hW : w.alloc (.cells #[.slice lA ln lc, .bool lb] 51) = W1 at *
  clear hW
  have HK9 : Aside0 (∀ w9 : World, (W1.drew).grownBy w9 (Value.ownBlock (.slice A ls.length c)) → Blk w9 g 55 #[.int .i64 most, .slice A ls.length c, thV, .int .i64 mv] ∧ w9.cell? ⟨w.heap.size, 0, none⟩ = some (.slice lA ln lc) ∧ w9.cell? ⟨w.heap.size, 1, none⟩ = some (.bool lb)) := ⟨fun w9 hg9 => by
    have hM := HM.out.below (below_step HB.out (below_drew (Below.refl _ _)))
    have hX9 := (HX.out.below (below_drew (Below.refl _ _))).kept hg9 (fun e => Nat.lt_irrefl _ ((own_row_lt HM.out.sh _ e.symm).1))
    exact ⟨hM.box.kept hg9 (own_ne_cells hM.sh hM.box (by decide)), hX9.cell rfl, hX9.cell rfl⟩⟩
  have hM2 := HM.out.below (below_step HB.out (below_drew (below_alloc (Below.refl _ _) (.cells #[.slice lA ln lc, .bool lb] 51))))
  have hX2 := HX.out.below (below_drew (below_alloc (Below.refl _ _) (.cells #[.slice lA ln lc, .bool lb] 51)))
  have d1 := hM2.c1
  have d2 := frozen_of_row _ _ 1 _ _ hM2.box
  have d3 := hX2.cell (o := 0) (v := .slice lA ln lc) rfl
  have d4 := hX2.cell (o := 1) (v := .bool lb) rfl
  clear hM2 hX2
  go_region_law (first | (refine app_step_at (W := W1.drew) rfl (.tmp 9) (.tmp 11) 52 51 (.agg #[.slice none 0 0, .bool false]) 2 32 (by rfl) Try.underlying52 info51b rfl (by decide) (by rfl) ((HM.out.below (below_step HB.out (below_drew (Below.refl _ _)))).sh) #[.slice lA ln lc, .bool lb] 1 (by rfl) rfl (fun u hu => by simp at hu; rcases hu with rfl | rfl <;> rfl) (by have := HL.out; omega) (by have := HL.out; omega) (Nat.le_trans hbase HB.out.size) ?_; intro v9 w9 ho9 hg9 hat9; obtain ⟨A9, c9, rfl⟩ := own_slice' ho9; obtain ⟨k0, k2, k3⟩ := HK9.out _ hg9; have k1 := k0.cell (o := 1) (v := .slice A ls.length c) rfl; have k4 := frozen_of_row _ _ 1 _ _ k0))
  all_goals
    obtain ⟨hb2, hg2, _⟩ := setCell_blk (q := 1) (v := .slice A9 (ls.length + 1) c9) k0 (show (1 : Nat) < 4 by decide)
    have HR := Aside0.mk (HM.out.tell (l := l) (below_step HB.out (below_drew (Below.refl _ _))) (by unfold shC; rw [hlA, hln, hlc, hlb]; exact ho9) hg9 hat9 hb2 hg2 (by rw [hlA, hln, hlc]; exact HK.out))
    clear ho9 hg9 hb2 hg2 k0 k1 k2 k3 k4 d1 d2 d3 d4 c1 f1 hat9
    generalize w9.setCell ⟨g, 1, none⟩ (.slice A9 (ls.length + 1) c9) = w3 at *
    have c1 := HR.out.1.c1
    go_wp2_with fail
    (try go_ret)
    exact ⟨by simp, ⟨_, HR.out.1⟩, HF.out, HR.out.2⟩
end
end Go.Proofs.Ytibhjlmffgabgaa.PAll
