import Derived.Test.YtibhjlmffgabgaaZRefKeep
import Derived.Test.YtibhjlmffgabgaaZHolds
namespace Go.Proofs.Ytibhjlmffgabgaa.PAll
open Go.RowKit Go.Proofs.YtibhjlmffgabgaaW.PrintWords Go.Proofs.YtibhjlmffgabgaaW.PrintLast Go.Proofs.YtibhjlmffgabgaaW.PrintMore
open Go.Proofs.Ytibhjlmffgabgaa.MapInt
set_option linter.unusedVariables false
set_option linter.unusedSimpArgs false
section
variable {w w2 : World} {base g : Nat} {Q K : Nat → Prop} {most mv : Int} {ls : List SH} {ts : List TH} {shV thV : Value}
theorem RM.mvd (h : RM w base Q K g most ls ts mv shV thV) {mv2 : Int} (hb : Blk w2 g 55 #[.int .i64 most, shV, thV, .int .i64 mv2]) (hg : w.grownBy w2 (some g)) : RM w2 base Q K g most ls ts mv2 shV thV :=
  ⟨hb, own_kept h.sh hg (fun k hk e => own_ne_cells h.sh h.box (by decide) (e ▸ hk.symm)), own_kept h.th hg (fun k hk e => own_ne_cells h.th h.box (by decide) (e ▸ hk.symm)), fun l hl => ⟨Kd.F_step (h.kin l hl).1 (fun k ho hlk => hg.block k hlk (fun e => h.qk k (by injection e with e; rw [e]; exact h.qg) ho)), (h.kin l hl).2⟩, fun t ht => ⟨(h.wds t ht).1.kept hg (fun e => h.box.ne_type (h.wds t ht).1 (by decide) (by injection e with e; exact e.symm)), (h.wds t ht).2⟩, h.nd, h.qg, h.qs, h.qt, fun k hk => Nat.lt_of_lt_of_le (h.lt k hk) hg.size, fun k hk => Nat.lt_of_lt_of_le (h.kl k hk) hg.size, h.qk⟩
theorem RM.rc {wr : World} {B b5 : Nat} {bs : List Bool} {v6 v7 v10 : Value} {o n : List Int} {xl : List TH} (h : RM w base Q K g most ls ts mv shV thV) (h1 : R1 w wr B b5 bs v6 v7 v10 o n xl) (hs : xl.Sublist ts) : RC wr base B Q K g most ls mv shV thV v6 v7 v10 o n xl :=
  ⟨(h.below h1.bel).m0, h1.o6, h1.o7, h1.o10, fun t ht => (h.below h1.bel).wds t (hs.subset ht), (hs.map (·.b)).nodup h.nd⟩
theorem RF.clr (hf : RF most ls ts) (S : Int → Bool) {xl : List TH} (hx : xl.map (·.t) = clrT (cvt ls) S (ts.map (·.t))) : RF most ls xl := by
  have hT : ∀ t ∈ ts.map (·.t), okT (cvt ls) t ∧ ∀ x ∈ t.xs, inR x := fun t ht => by
    obtain ⟨u, hu, rfl⟩ := List.mem_map.1 ht
    exact ⟨hf.things u hu, hf.wrd u hu⟩
  have hroom := hf.room
  have hb2 := hf.bnd.2
  have hks := keep_sum (cvt ls) S (ts.map (·.t)) 1
  have hF : ∀ x y, newF (cvt ls) S (ts.map (·.t)) x = some y → inR y := fun x y h => by
    have := toF_range _ _ _ _ _ _ _ h
    unfold inR
    exact ⟨by omega, by omega⟩
  have hX : ∀ t ∈ xl.map (·.t), okT (cvt ls) t ∧ ∀ x ∈ t.xs, inR x := fun t ht => by
    rw [hx] at ht
    unfold clrT at ht
    obtain ⟨u, hu, rfl⟩ := List.mem_map.1 ht
    have := hT u (keep_sub _ _ _ _ u hu)
    exact ⟨mvT_ok this.1, mvT_wrd hF this.2⟩
  refine ⟨hf.bnd, ?_, fun t ht => (hX t.t (List.mem_map_of_mem ht)).1, hf.arr, hf.shl, fun t ht => (hX t.t (List.mem_map_of_mem ht)).2, hf.len⟩
  rw [hx]
  unfold clrT
  rw [mvT_sum]
  omega
theorem own_push {B : Nat} {v : Value} {L : List Int} {x : Int} {cs : List Value} (hc : cs = [.int .i64 x]) (ho : w.ownsRow B 3 1 v (L.length + 1) (nums .i64 L ++ cs)) : w.ownsRow B 3 1 v (L ++ [x]).length (nums .i64 (L ++ [x])) := by
  subst hc
  have e : nums .i64 (L ++ [x]) = nums .i64 L ++ [.int .i64 x] := by unfold nums; simp
  rw [e, List.length_append]; exact ho
theorem kp_take (shs : List S65) (S : Int → Bool) {ts : List TH} {i : Nat} {t : TH} (h : ts[i]? = some t) : kpH shs S (ts.take (i + 1)) 1 1 = kpH shs S (ts.take i) 1 1 ++ (if S ((1 + sumT shs ((ts.map (·.t)).take i) : Nat) : Int) = true then [(((1 + sumT shs ((ts.map (·.t)).take i) : Nat) : Int), ((1 + sumT shs (keepT shs S ((ts.map (·.t)).take i) 1) : Nat) : Int), t)] else []) := by
  have := kp_snoc shs S t (ts.take i) 1 1
  rw [List.map_take] at this
  rw [List.take_add_one, h]
  exact this
theorem kp_len (shs : List S65) (S : Int → Bool) (T : List TH) (b c : Nat) : (kpH shs S T b c).length ≤ T.length := by
  have := (kp_sub shs S T b c).length_le
  rwa [List.length_map] at this
set_option maxHeartbeats 8000000 in
set_option maxRecDepth 100000 in
theorem rclear_calls (h : RM w base Q K g most ls ts mv shV thV) (hf : RF most ls ts) (hbase : base ≤ w.heap.size) (hmv : 0 ≤ mv ∧ mv ≤ 1000000000) {A : Option Addr} {c : Nat} {roots : List Int} (hr : ∀ w', Chg Q w w' → Kd.C (Kd.int .i64) w' A roots.length roots) (hrl : roots.length ≤ 1000000) :
    Calls Try.prog 29 #[.pointer (some ⟨g, 0, none⟩), .slice A roots.length c] w fun e w' => ∃ v, e = .returned v ∧ w'.ownsRow w.heap.size 3 1 v roots.length (nums .i64 (roots.map (ref1 (newF (cvt ls) (rchB (cvt ls) (ts.map (·.t)) roots) (ts.map (·.t)))))) ∧ (∃ ts' thV', ts'.map (·.t) = clrT (cvt ls) (rchB (cvt ls) (ts.map (·.t)) roots) (ts.map (·.t)) ∧ RM w' base (PX Q w w') K g most ls ts' (mv + 1) shV thV' ∧ RF most ls ts') ∧ Chg Q w w' := by
  obtain ⟨hmv0, hmv1⟩ := hmv
  obtain ⟨hb1, hg1, hz1⟩ := setCell_blk (q := 3) (v := .int .i64 (mv + 1)) h.box (show (3 : Nat) < 4 by decide)
  have hM1 := h.mvd (mv2 := mv + 1) hb1 hg1
  have HC1 : Aside0 (Chg Q w (w.setCell ⟨g, 3, none⟩ (.int .i64 (mv + 1)))) := ⟨Chg.of_grown hg1 (.inl h.qg)⟩
  have H43 := Aside0.mk (rreached_calls (c := c) hM1 hf (hr _ HC1.out) hrl)
  have HM := Aside0.mk hM1
  have HF := Aside0.mk hf
  have HR := Aside0.mk hr
  have HQL := Aside0.mk h.lt
  have HKL := Aside0.mk h.kl
  have HZ := Aside0.mk hz1
  have c3 := h.c3
  have fz := frozen_of_row _ _ 3 _ _ h.box
  have hfew := hf.few
  obtain ⟨S, hS⟩ : ∃ S, S = rchB (cvt ls) (ts.map (·.t)) roots := ⟨_, rfl⟩
  rw [← hS]
  have HS := Aside0.mk hS
  obtain ⟨A0, c0, hV⟩ := h.thL
  subst hV
  clear h hf hr hb1 hg1 hM1 hS hz1
  go_enter Try.func29, Try.ntmps29
  go_wp2_with (first | (go_at_call 43; (with_reducible refine (H43.out).mono ?_); rintro e w5 ⟨b5, rfl, hb5, hrr, hb⟩; have HB := Aside0.mk hb; have HBK := Aside0.mk hrr.rch; clear hb hrr))
  rw [← HS.out] at HBK
  clear H43 c3 fz
  generalize w.setCell ⟨g, 3, none⟩ (.int .i64 (mv + 1)) = w1 at *
  have HR1 : Aside0 (R1 w1 w5 w1.heap.size b5 (seenL (cvt ls) (ts.map (·.t)) S) (.slice none 0 0) (.slice none 0 0) (.slice none 0 0) [] [] []) := ⟨⟨HB.out, HB.out.size, HBK.out, ⟨rfl, .inl ⟨rfl, rfl⟩⟩, ⟨rfl, .inl ⟨rfl, rfl⟩⟩, ⟨rfl, .inl ⟨rfl, rfl⟩⟩, fun k hk => by cases hk⟩⟩
  clear HB HBK hb5
  go_loopg [6, 7, 8, 9, 10, 11] (ts.length) (fun k v6 v7 v8 v9 v10 v11 wr => ∃ i : Nat, i + k = ts.length ∧ v11 = .int .i64 (i : Int) ∧ v8 = .int .i64 ((1 + sumT (cvt ls) ((ts.map (·.t)).take i) : Nat) : Int) ∧ v9 = .int .i64 ((1 + sumT (cvt ls) (keepT (cvt ls) S ((ts.map (·.t)).take i) 1) : Nat) : Int) ∧ Aside0 (R1 w1 wr w1.heap.size b5 (seenL (cvt ls) (ts.map (·.t)) S) v6 v7 v10 ((kpH (cvt ls) S (ts.take i) 1 1).map (fun p => p.1)) ((kpH (cvt ls) S (ts.take i) 1 1).map (fun p => p.2.1)) ((kpH (cvt ls) S (ts.take i) 1 1).map (fun p => p.2.2))))
  case atStart => exact ⟨0, by omega, rfl, by simp [sumT], by simp [sumT, keepT], HR1⟩
  case round =>
    clear HR1
    obtain ⟨i, hik, rfl, rfl, rfl, HR1⟩ := hrel
    have q2 : (0 : Int) ≤ (i : Int) := by omega
    have c2 := (HM.out.below HR1.out.bel).c2
    by_cases hlt : i < ts.length
    · obtain ⟨t, ht⟩ : ∃ t, ts[i]? = some t := ⟨_, List.getElem?_eq_getElem hlt⟩
      obtain ⟨ok, hs1, hr1⟩ := HF.out.at_ ht
      have hjT : i < (ts.map (·.t)).length := by rw [List.length_map]; exact hlt
      have HKP := Aside0.mk (kp_take (cvt ls) S ht)
      have HKT := Aside0.mk (keep_take (cvt ls) S (T := ts.map (·.t)) (i := i) (t := t.t) (by rw [List.getElem?_map, ht]; rfl))
      have hks := keep_sum (cvt ls) S ((ts.map (·.t)).take (i + 1)) 1
      have hkl := kp_len (cvt ls) S (ts.take i) 1 1
      rw [List.length_take] at hkl
      have hb2 := HF.out.bnd.2
      have q1 : (i : Int) < (ts.length : Int) := by omega
      have q1' : decide (i < ts.length) = true := by simp; omega
      have HB5 : Aside0 (∀ wx v6 v7 v10 o n kl, R1 w1 wx w1.heap.size b5 (seenL (cvt ls) (ts.map (·.t)) S) v6 v7 v10 o n kl → wx.cell? ⟨b5, i, none⟩ = some (.bool (S ((1 + sumT (cvt ls) ((ts.map (·.t)).take i) : Nat) : Int)))) := ⟨fun wx v6 v7 v10 o n kl hx => by
        have := hx.box5.cell (bC_at (l := seenL (cvt ls) (ts.map (·.t)) S) (i := i) (by rw [seen_len]; exact hjT))
        rw [seen_at _ _ _ hjT] at this
        exact this⟩
      have H44 : Aside0 (∀ wx, Below w1.heap.size w1 wx → Calls Try.prog 44 #[.pointer (some ⟨g, 0, none⟩), .agg #[.int .i64 (t.t.s : Int), .slice (some ⟨t.b, 0, none⟩) t.t.xs.length t.t.xs.length]] wx fun e w' => e = .returned (.int .i64 (tsz (cvt ls) t.t : Int)) ∧ Below wx.heap.size wx w') := ⟨fun wx hb => rtsz_calls (HM.out.below hb) HF.out ok _ _⟩
      have HT := Aside0.mk ht
      have HCT : Aside0 (∀ wx, Below w1.heap.size w1 wx → wx.cell? ⟨g, 2, none⟩ = some (.slice A0 ts.length c0) ∧ ∃ ad, A0 = some ad ∧ wx.cell? (ad.add (i * 2)) = some (.int .i64 (t.t.s : Int)) ∧ wx.cell? ⟨(ad.add (i * 2)).block, (ad.add (i * 2)).off + 1, none⟩ = some (.slice (some ⟨t.b, 0, none⟩) t.t.xs.length t.t.xs.length)) := ⟨fun w5 hb => by
        have hM := HM.out.below hb
        obtain ⟨ad, c', e, y0, y1⟩ := hM.thing HT.out
        injection e with e1 e2 e3
        exact ⟨hM.c2, ad, e1, y0, y1⟩⟩
      obtain ⟨_, ad, rfl, y0, y1⟩ := HCT.out _ HR1.out.bel
      have q3 : ((1 + sumT (cvt ls) ((ts.map (·.t)).take i) : Nat) : Int) + (tsz (cvt ls) t.t : Int) ≤ 70000 := by omega
      have q4 : (0 : Int) ≤ ((1 + sumT (cvt ls) ((ts.map (·.t)).take i) : Nat) : Int) := by omega
      have q5 : (0 : Int) ≤ (tsz (cvt ls) t.t : Int) := by omega
      have HS1 : Aside0 (1 + sumT (cvt ls) ((ts.map (·.t)).take (i + 1)) = 1 + sumT (cvt ls) ((ts.map (·.t)).take i) + tsz (cvt ls) t.t) := ⟨by omega⟩
      cases hS : S ((1 + sumT (cvt ls) ((ts.map (·.t)).take i) : Nat) : Int) with
      | false =>
        rw [hS] at HB5 HKP HKT
        rw [if_neg (by decide), List.append_nil] at HKP HKT
        clear ok hs1 hr1 hks hkl ht hS
        generalize hY : 1 + sumT (cvt ls) (keepT (cvt ls) S ((ts.map (·.t)).take i) 1) = Y at *
        generalize hZ : 1 + sumT (cvt ls) ((ts.map (·.t)).take i) = Z at *
        generalize tsz (cvt ls) t.t = z at *
        generalize t.t.xs.length = n at *
        generalize t.t.s = s at *
        go_wp2_with (first | (go_at_call 44; (with_reducible refine (H44.out _ HR1.out.bel).mono ?_); rintro e w6 ⟨rfl, hb6⟩; have HR2 := Aside0.mk (HR1.out.below hb6); have b0 := HB5.out _ _ _ _ _ _ _ HR2.out; clear hb6))
        go_roundg (ts.length - (i + 1))
        case measure => omega
        case rel => exact ⟨i + 1, by omega, by go_num, by rw [HS1.out]; go_num, by rw [HKT.out, hY], by rw [HKP.out]; exact HR2⟩
      | true =>
        rw [hS] at HB5 HKP HKT
        rw [if_pos rfl] at HKP HKT
        have hkt := HKT.out
        rw [hkt, sum_snoc1] at hks
        have q6 : ((1 + sumT (cvt ls) (keepT (cvt ls) S ((ts.map (·.t)).take i) 1) : Nat) : Int) + (tsz (cvt ls) t.t : Int) ≤ 70000 := by omega
        have q7 : (0 : Int) ≤ ((1 + sumT (cvt ls) (keepT (cvt ls) S ((ts.map (·.t)).take i) 1) : Nat) : Int) := by omega
        have HS2 : Aside0 (1 + sumT (cvt ls) (keepT (cvt ls) S ((ts.map (·.t)).take (i + 1)) 1) = 1 + sumT (cvt ls) (keepT (cvt ls) S ((ts.map (·.t)).take i) 1) + tsz (cvt ls) t.t) := ⟨by rw [hkt, sum_snoc1]; omega⟩
        have HE1 : Aside0 ((kpH (cvt ls) S (ts.take (i + 1)) 1 1).map (fun p => p.1) = (kpH (cvt ls) S (ts.take i) 1 1).map (fun p => p.1) ++ [((1 + sumT (cvt ls) ((ts.map (·.t)).take i) : Nat) : Int)]) := ⟨by rw [HKP.out]; simp⟩
        have HE2 : Aside0 ((kpH (cvt ls) S (ts.take (i + 1)) 1 1).map (fun p => p.2.1) = (kpH (cvt ls) S (ts.take i) 1 1).map (fun p => p.2.1) ++ [((1 + sumT (cvt ls) (keepT (cvt ls) S ((ts.map (·.t)).take i) 1) : Nat) : Int)]) := ⟨by rw [HKP.out]; simp⟩
        have HE3 : Aside0 ((kpH (cvt ls) S (ts.take (i + 1)) 1 1).map (fun p => p.2.2) = (kpH (cvt ls) S (ts.take i) 1 1).map (fun p => p.2.2) ++ [t]) := ⟨by rw [HKP.out]; simp⟩
        have HL1 : Aside0 (((kpH (cvt ls) S (ts.take i) 1 1).map (fun p => p.1)).length ≤ 65536) := ⟨by rw [List.length_map]; omega⟩
        have HL2 : Aside0 (((kpH (cvt ls) S (ts.take i) 1 1).map (fun p => p.2.1)).length ≤ 65536) := ⟨by rw [List.length_map]; omega⟩
        have HL3 : Aside0 (((kpH (cvt ls) S (ts.take i) 1 1).map (fun p => p.2.2)).length ≤ 65536) := ⟨by rw [List.length_map]; omega⟩
        clear ok hs1 hr1 hks hkl ht hS hkt HKT HKP
        generalize (kpH (cvt ls) S (ts.take i) 1 1).map (fun p => p.1) = L1 at *
        generalize (kpH (cvt ls) S (ts.take i) 1 1).map (fun p => p.2.1) = L2 at *
        generalize (kpH (cvt ls) S (ts.take i) 1 1).map (fun p => p.2.2) = L3 at *
        generalize 1 + sumT (cvt ls) (keepT (cvt ls) S ((ts.map (·.t)).take i) 1) = Y at *
        generalize hZ : 1 + sumT (cvt ls) ((ts.map (·.t)).take i) = Z at *
        generalize hz : tsz (cvt ls) t.t = z at *
        go_wp2_with (first | (go_at_call 44; (with_reducible refine (H44.out _ HR1.out.bel).mono ?_); rintro e w6 ⟨rfl, hb6⟩; have HR2 := Aside0.mk (HR1.out.below hb6); have b0 := HB5.out _ _ _ _ _ _ _ HR2.out; clear hb6) | ((with_reducible refine gate_dst (N := 52) rfl ?_); at_builtin; refine app_new_where rfl (.tmp 49) (.tmp 51) 30 3 (.int .i64 0) 1 8 rfl Try.underlying30 info3q rfl (by decide) rfl HR2.out.o6 _ 1 rfl rfl rfl (fun u hu => by simp at hu; subst hu; rfl) (by have := HL1.out; omega) (by have := HL1.out; omega) HR2.out.hB ?_; intro v7' w7 ho7 hg7 hat7; have HR3 := Aside0.mk (HR2.out.push6 (x := (Z : Int)) (Nat.le_refl _) rfl ho7 hg7 hat7); clear ho7 hg7 hat7) | ((with_reducible refine gate_dst (N := 56) rfl ?_); at_builtin; refine app_new_where rfl (.tmp 53) (.tmp 55) 30 3 (.int .i64 0) 1 8 rfl Try.underlying30 info3q rfl (by decide) rfl HR3.out.o7 _ 1 rfl rfl rfl (fun u hu => by simp at hu; subst hu; rfl) (by have := HL2.out; omega) (by have := HL2.out; omega) HR3.out.hB ?_; intro v8' w8 ho8 hg8 hat8; have HR4 := Aside0.mk (HR3.out.push7 (x := (Y : Int)) (Nat.le_refl _) rfl ho8 hg8 hat8); clear ho8 hg8 hat8; obtain ⟨c8, ad8, e8, z0, z1⟩ := HCT.out _ HR4.out.bel; injection e8 with e8; subst e8) | ((with_reducible refine gate_dst (N := 66) rfl ?_); at_builtin; refine app_new_where rfl (.tmp 57) (.tmp 65) 53 76 (.agg #[.int .i64 0, .slice none 0 0]) 2 32 rfl Try.underlying53 info76b rfl (by decide) rfl HR4.out.o10 _ 1 rfl rfl rfl (fun u hu => by simp at hu; rcases hu with rfl | rfl <;> rfl) (by have := HL3.out; omega) (by have := HL3.out; omega) HR4.out.hB ?_; intro v9' w9 ho9 hg9 _; have HR5 := Aside0.mk (HR4.out.push10 (t := t) (Nat.le_refl _) rfl ho9 hg9); clear ho9 hg9 c8 z0 z1))
        go_roundg (ts.length - (i + 1))
        case measure => omega
        case rel => exact ⟨i + 1, by omega, by go_num, by rw [HS1.out]; go_num, by rw [HS2.out]; go_num, by rw [HE1.out, HE2.out, HE3.out]; exact HR5⟩
    · have hge : ts.length ≤ i := by omega
      have q1' : decide (i < ts.length) = false := by simp; omega
      have hT : ts.take i = ts := List.take_of_length_le hge
      rw [hT] at HR1
      have HMOV : Aside0 (∀ x, movF ((kpH (cvt ls) S ts 1 1).map (fun p => p.1)) ((kpH (cvt ls) S ts 1 1).map (fun p => p.2.1)) x = ref1 (newF (cvt ls) S (ts.map (·.t))) x) := ⟨fun x => kp_mov (cvt ls) S x ts 1 1⟩
      have hkl := kp_len (cvt ls) S ts 1 1
      have HRC := Aside0.mk (HM.out.rc HR1.out (kp_sub (cvt ls) S ts 1 1))
      have HCH : Aside0 (Chg Q w wr) := ⟨HC1.out.trans (Q := fun _ => False) (Chg.of_below HR1.out.bel) (fun k hk => hk.elim)⟩
      have HKT : Aside0 (((kpH (cvt ls) S ts 1 1).map (fun p => p.2.2)).map (·.t) = keepT (cvt ls) S (ts.map (·.t)) 1) := ⟨by rw [List.map_map]; exact kp_t (cvt ls) S ts 1 1⟩
      have hlo : ((kpH (cvt ls) S ts 1 1).map (fun p => p.1)).length = ((kpH (cvt ls) S ts 1 1).map (fun p => p.2.1)).length := by rw [List.length_map, List.length_map]
      have hlk : ((kpH (cvt ls) S ts 1 1).map (fun p => p.1)).length = ((kpH (cvt ls) S ts 1 1).map (fun p => p.2.2)).length := by rw [List.length_map, List.length_map]
      have hl6 : ((kpH (cvt ls) S ts 1 1).map (fun p => p.1)).length ≤ 65536 := by rw [List.length_map]; omega
      have HOKL : Aside0 (∀ t ∈ (kpH (cvt ls) S ts 1 1).map (fun p => p.2.2), okT (cvt ls) t.t) := ⟨fun t ht => HF.out.things t ((kp_sub (cvt ls) S ts 1 1).subset ht)⟩
      generalize (kpH (cvt ls) S ts 1 1).map (fun p => p.1) = old at *
      generalize (kpH (cvt ls) S ts 1 1).map (fun p => p.2.1) = now at *
      generalize (kpH (cvt ls) S ts 1 1).map (fun p => p.2.2) = kl at *
      have hkl6 : kl.length ≤ 65536 := by omega
      have HLO := Aside0.mk hlo
      have HLK := Aside0.mk hlk
      clear hlo hlk
      obtain ⟨A6, c6, rfl⟩ := own_slice' HRC.out.o6
      obtain ⟨A7, c7, rfl⟩ := own_slice' HRC.out.o7
      obtain ⟨A10, c10, rfl⟩ := own_slice' HRC.out.o10
      clear HR1 hT hik
      go_wp2_with fail
      have HMU := Aside0.mk HQL.out
      obtain ⟨F, hF⟩ : ∃ F, F = newF (cvt ls) S (ts.map (·.t)) := ⟨_, rfl⟩
      rw [← hF] at HMOV
      have HFE := Aside0.mk hF
      clear hF
      have HX0 : Aside0 (RC wr base w1.heap.size Q K g most ls (mv + 1) shV (.slice A0 ts.length c0) (.slice A6 old.length c6) (.slice A7 now.length c7) (.slice A10 kl.length c10) old now (xlAt (cvt ls) F kl 0 0)) := ⟨by rw [xl_zero]; exact HRC.out⟩
      clear HRC
      go_loopg [13] (kl.length) (fun k v13 wr => ∃ i : Nat, i + k = kl.length ∧ v13 = .int .i64 (i : Int) ∧ Aside0 (Chg Q w wr) ∧ Aside0 (RC wr base w1.heap.size Q K g most ls (mv + 1) shV (.slice A0 ts.length c0) (.slice A6 old.length c6) (.slice A7 now.length c7) (.slice A10 kl.length c10) old now (xlAt (cvt ls) F kl i 0)))
      case atStart => exact ⟨0, by omega, rfl, HCH, HX0⟩
      case round =>
        clear HX0 HCH
        obtain ⟨i, hik, rfl, HCH, HRC⟩ := hrel
        have q0 : (0 : Int) ≤ (i : Int) := by omega
        by_cases hlt : i < kl.length
        · obtain ⟨t, ht⟩ : ∃ t, kl[i]? = some t := ⟨_, List.getElem?_eq_getElem hlt⟩
          have hok := HOKL.out t (List.mem_of_getElem? ht)
          have hn := hok.2.2
          have q1 : (i : Int) < (kl.length : Int) := by omega
          have q1' : decide (i < kl.length) = true := by simp; omega
          have HT := Aside0.mk ht
          have HXA : Aside0 (∀ wx (j : Nat), RC wx base w1.heap.size Q K g most ls (mv + 1) shV (.slice A0 ts.length c0) (.slice A6 old.length c6) (.slice A7 now.length c7) (.slice A10 kl.length c10) old now (xlAt (cvt ls) F kl i j) → ∃ ad, A10 = some ad ∧ wx.cell? (ad.add (i * 2)) = some (.int .i64 (t.t.s : Int)) ∧ wx.cell? ⟨(ad.add (i * 2)).block, (ad.add (i * 2)).off + 1, none⟩ = some (.slice (some ⟨t.b, 0, none⟩) t.t.xs.length t.t.xs.length) ∧ (j < t.t.xs.length → wx.cell? ⟨t.b, j, none⟩ = some (.int .i64 (t.t.xs.getD j 0))) ∧ wx.frozen? ⟨t.b, j, none⟩ = false) := ⟨fun wx j hx => by
            obtain ⟨ad, c', e, y0, y1⟩ := hx.thing (xl_at HT.out)
            injection e with e1 e2 e3
            have hw := (hx.wds _ (List.mem_of_getElem? (xl_at HT.out))).1
            dsimp only at y0 y1 hw
            rw [mvN_len] at y1
            refine ⟨ad, e1, y0, y1, fun hj => ?_, frozen_of_row _ _ _ _ _ hw⟩
            have := hw.cell (wC_at (i := j) (by rw [mvN_len]; exact hj))
            rw [mvN_at _ _ _ _ _ hj, if_neg (fun h => Nat.lt_irrefl _ h.1)] at this
            exact this⟩
          have HREF : Aside0 (∀ wx (j : Nat), RC wx base w1.heap.size Q K g most ls (mv + 1) shV (.slice A0 ts.length c0) (.slice A6 old.length c6) (.slice A7 now.length c7) (.slice A10 kl.length c10) old now (xlAt (cvt ls) F kl i j) → j < t.t.xs.length → Calls Try.prog 45 #[.pointer (some ⟨g, 0, none⟩), .agg #[.int .i64 (t.t.s : Int), .slice (some ⟨t.b, 0, none⟩) t.t.xs.length t.t.xs.length], .int .i64 (j : Int)] wx fun e w' => e = .returned (.bool (isR (cvt ls) t.t j)) ∧ Below wx.heap.size wx w') := ⟨fun wx j hx hj => rref0_calls hx.m0 HF.out hok _ _ hj⟩
          have H46 : Aside0 (∀ wx (j : Nat) (x : Int), RC wx base w1.heap.size Q K g most ls (mv + 1) shV (.slice A0 ts.length c0) (.slice A6 old.length c6) (.slice A7 now.length c7) (.slice A10 kl.length c10) old now (xlAt (cvt ls) F kl i j) → Calls Try.prog 46 #[.slice A6 old.length c6, .slice A7 now.length c7, .int .i64 x] wx fun e w' => e = .returned (.int .i64 (ref1 F x)) ∧ w' = wx) := ⟨fun wx j x hx => by
            obtain ⟨B6, d6, e6, _, g6⟩ := own_C hx.o6
            obtain ⟨B7, d7, e7, _, g7⟩ := own_C hx.o7
            injection e6 with e6 _ _; subst e6
            injection e7 with e7 _ _; subst e7
            have := rmoved_still (c0 := c6) (c1 := c7) g6 g7 HLO.out (by omega) x
            rw [HMOV.out] at this
            exact this⟩
          have HWD : Aside0 (∀ wx (j : Nat), RC wx base w1.heap.size Q K g most ls (mv + 1) shV (.slice A0 ts.length c0) (.slice A6 old.length c6) (.slice A7 now.length c7) (.slice A10 kl.length c10) old now (xlAt (cvt ls) F kl i j) → Blk wx t.b 2 (wC (mvN (cvt ls) F t.t j))) := ⟨fun wx j hx => (hx.wds _ (List.mem_of_getElem? (xl_at (shs := cvt ls) (F := F) (k := j) HT.out))).1⟩
          have HPUT : Aside0 (∀ wx w2 (j : Nat), RC wx base w1.heap.size Q K g most ls (mv + 1) shV (.slice A0 ts.length c0) (.slice A6 old.length c6) (.slice A7 now.length c7) (.slice A10 kl.length c10) old now (xlAt (cvt ls) F kl i j) → j < t.t.xs.length → isR (cvt ls) t.t j = true → Blk w2 t.b 2 ((wC (mvN (cvt ls) F t.t j)).setIfInBounds j (.int .i64 (ref1 F (t.t.xs.getD j 0)))) → wx.grownBy w2 (some t.b) → RC w2 base w1.heap.size Q K g most ls (mv + 1) shV (.slice A0 ts.length c0) (.slice A6 old.length c6) (.slice A7 now.length c7) (.slice A10 kl.length c10) old now (xlAt (cvt ls) F kl i (j + 1)) ∧ Chg Q wx w2) := ⟨fun wx w2 j hx hj hr hb7 hg7 => by
            have hmem := List.mem_of_getElem? (xl_at (shs := cvt ls) (F := F) (k := j) HT.out)
            have hq := (hx.wds _ hmem).2
            dsimp only at hq
            rw [wC_set] at hb7
            have := hx.putw (xl_at HT.out) (xs := (mvN (cvt ls) F t.t j).set j (ref1 F (t.t.xs.getD j 0))) (List.length_set ..) hb7 hg7
            dsimp only at this
            rw [xl_step HT.out hj hr] at this
            exact ⟨this, Chg.of_grown hg7 (.inl hq)⟩⟩
          have HSK : Aside0 (∀ j, isR (cvt ls) t.t j = false → xlAt (cvt ls) F kl i (j + 1) = xlAt (cvt ls) F kl i j) := ⟨fun j hr => xl_skip HT.out hr⟩
          have HNX := Aside0.mk (xl_next (shs := cvt ls) (F := F) HT.out)
          clear ht hok
          generalize hnn : t.t.xs.length = n at *
          generalize t.t.s = s at *
          go_wp2_with fail
          go_loopg [14] n (fun k2 v14 wr => ∃ j : Nat, j + k2 = n ∧ v14 = .int .i64 (j : Int) ∧ Aside0 (Chg Q w wr) ∧ Aside0 (RC wr base w1.heap.size Q K g most ls (mv + 1) shV (.slice A0 ts.length c0) (.slice A6 old.length c6) (.slice A7 now.length c7) (.slice A10 kl.length c10) old now (xlAt (cvt ls) F kl i j)))
          case atStart => exact ⟨0, by omega, rfl, HCH, HRC⟩
          case round =>
            clear HRC HCH
            obtain ⟨j, hjk, rfl, HCH, HRC⟩ := hrel
            obtain ⟨ad, rfl, y0, y1, y2, y3⟩ := HXA.out _ _ HRC.out
            have p0 : (0 : Int) ≤ (j : Int) := by omega
            by_cases hj : j < n
            · have p1 : (j : Int) < (n : Int) := by omega
              have p1' : decide (j < n) = true := by simp; omega
              have HREFJ := Aside0.mk (fun wx hx => HREF.out wx j hx hj)
              have HPUTJ := Aside0.mk (fun wx w2 hx => HPUT.out wx w2 j hx hj)
              have HWDJ := Aside0.mk (fun wx hx => HWD.out wx j hx)
              have HMN : (wC (mvN (cvt ls) F t.t j)).size = n := by rw [wC_size, mvN_len]; exact hnn
              have HSKJ := Aside0.mk (HSK.out j)
              have H46J := Aside0.mk (fun wx x hx => H46.out wx j x hx)
              have HXAJ := Aside0.mk (fun wx hx => HXA.out wx j hx)
              have y2' := y2 hj
              generalize isR (cvt ls) t.t j = r at *
              generalize t.t.xs.getD j 0 = x at *
              cases r with
              | false =>
                clear y2 y3
                go_wp2_with (first | (go_at_call 45; (with_reducible refine (HREFJ.out _ HRC.out).mono ?_); rintro e w10 ⟨rfl, hb10⟩; have HRC10 := Aside0.mk (HRC.out.below hb10); have HCH10 := Aside0.mk (HCH.out.trans (Q := fun _ => False) (Chg.of_below hb10) (fun k hk => hk.elim)); clear hb10))
                go_roundg (n - (j + 1))
                case measure => omega
                case rel => exact ⟨j + 1, by omega, by go_num, HCH10, by rw [HSKJ.out (by trivial)]; exact HRC10⟩
              | true =>
                clear y2
                go_wp2_with (first | (go_at_call 45; (with_reducible refine (HREFJ.out _ HRC.out).mono ?_); rintro e w10 ⟨rfl, hb10⟩; have HRC10 := Aside0.mk (HRC.out.below hb10); have HCH10 := Aside0.mk (HCH.out.trans (Q := fun _ => False) (Chg.of_below hb10) (fun k hk => hk.elim)); clear hb10 y0 y1 y2' y3))
                have HHD : Aside0 (∀ wx, RC wx base w1.heap.size Q K g most ls (mv + 1) shV (.slice A0 ts.length c0) (.slice A6 old.length c6) (.slice A7 now.length c7) (.slice (some ad) kl.length c10) old now (xlAt (cvt ls) F kl i j) → wx.cell? (ad.add (i * 2)) = some (.int .i64 (s : Int)) ∧ wx.cell? ⟨(ad.add (i * 2)).block, (ad.add (i * 2)).off + 1, none⟩ = some (.slice (some ⟨t.b, 0, none⟩) n n) ∧ wx.cell? ⟨t.b, j, none⟩ = some (.int .i64 x) ∧ wx.frozen? ⟨t.b, j, none⟩ = false) := ⟨fun wx hx => by
                  obtain ⟨ad2, e, y0, y1, y2, y3⟩ := HXAJ.out wx hx
                  injection e with e; subst e
                  exact ⟨y0, y1, y2 hj, y3⟩⟩
                obtain ⟨_, y1, y2, y3⟩ := HHD.out _ HRC10.out
                have HHD2 : Aside0 (∀ wx, RC wx base w1.heap.size Q K g most ls (mv + 1) shV (.slice A0 ts.length c0) (.slice A6 old.length c6) (.slice A7 now.length c7) (.slice (some ad) kl.length c10) old now (xlAt (cvt ls) F kl i (j + 1)) → wx.cell? ⟨(ad.add (i * 2)).block, (ad.add (i * 2)).off + 1, none⟩ = some (.slice (some ⟨t.b, 0, none⟩) n n)) := ⟨fun wx hx => by
                  obtain ⟨ad2, e, y0, y1, y2, y3⟩ := HXA.out wx (j + 1) hx
                  injection e with e; subst e
                  exact y1⟩
                generalize wC (mvN (cvt ls) F t.t j) = WC at *
                have HRCd := Aside0.mk (HRC10.out.below (below_drew (Below.refl _ _)))
                have HC46 := Aside0.mk (H46J.out _ x HRCd.out)
                have hxb := (HXA.out _ j HRCd.out)
                clear HXA HREF H46 HPUT HREFJ HSKJ HXAJ HSK HNX HKT HOKL HRC HCH HT HFE HMOV HS HC1 HZ HM HF HR HQL HMU HWD y1 y2 y3 hxb H46J HHD2
                obtain ⟨_, y1, y2, y3⟩ := HHD.out _ HRCd.out
                have y1' : ({ w10 with drawn := w10.drawn + 1 } : World).cell? ⟨(ad.add (i * 2)).block, (ad.add (i * 2)).off + 1, none⟩ = some (.slice (some ⟨t.b, 0, none⟩) n n) := y1
                have y2' : ({ w10 with drawn := w10.drawn + 1 } : World).cell? ⟨t.b, j, none⟩ = some (.int .i64 x) := y2
                go_still_tail 18, (by kernel_rfl)
                still_call HC46.out
                repeat still_step
                refine wpStill_nil ?_
                change wpList _ _ _ _ _ w10.drew
                clear y1 y2 y3 y1' y2'
                go_wp2_with (first | ((with_reducible refine gate_store (t := 2) (p := 113) (v := .tmp 112) rfl ?_); refine cell_store rfl 2 (.tmp 113) (.tmp 112) rfl oi2 (q := j) (v := .int .i64 (ref1 F x)) rfl rfl rfl (HWDJ.out _ HRCd.out) (by rw [HMN]; exact hj) ?_; intro w12 hb12 hg12 _; have HPP := HPUTJ.out _ _ HRCd.out (by trivial) hb12 hg12; have HRC12 := Aside0.mk HPP.1; have HCH12 := Aside0.mk ((HCH10.out.trans (Q := fun _ => False) (Chg.of_below (below_drew (Below.refl _ _))) (fun k hk => hk.elim)).trans HPP.2 (fun k hk => .inl hk)); clear hb12 hg12 HPP))
                go_roundg (n - (j + 1))
                case measure => omega
                case rel => exact ⟨j + 1, by omega, by go_num, HCH12, HRC12⟩
            · have p1' : decide (j < n) = false := by simp; omega
              obtain rfl : j = n := by omega
              go_wp2_with fail
              go_roundg (kl.length - (i + 1))
              case measure => omega
              case rel => exact ⟨i + 1, by omega, by go_num, HCH, by rw [← HNX.out]; exact HRC⟩
        · have q1' : decide (i < kl.length) = false := by simp; omega
          obtain rfl : i = kl.length := by omega
          rw [xl_end] at HRC
          have c2 := HRC.out.m0.box.cell (o := 2) (v := .slice A0 ts.length c0) rfl
          have fz := frozen_of_row _ _ 2 _ _ HRC.out.m0.box
          obtain ⟨hb2, hg2, _⟩ := setCell_blk (q := 2) (v := .slice A10 kl.length c10) HRC.out.m0.box (show (2 : Nat) < 4 by decide)
          have HRL := Aside0.mk (HRC.out.setTh hb2 hg2)
          have HCL : Aside0 (Chg Q w (wr.setCell ⟨g, 2, none⟩ (.slice A10 kl.length c10))) := ⟨HCH.out.trans (Chg.of_grown hg2 (.inl HRC.out.m0.qg)) (fun k hk => .inl hk)⟩
          clear hb2 hg2 HRC HCH
          go_wp2_with fail
          clear c2 fz
          generalize wr.setCell ⟨g, 2, none⟩ (.slice A10 kl.length c10) = wL at *
          have HOUT : Aside0 (wL.ownsRow wL.heap.size 3 1 (.slice none 0 0) ([] : List Int).length (nums .i64 [])) := ⟨⟨rfl, .inl ⟨rfl, rfl⟩⟩⟩
          go_loopg [15, 16] (roots.length) (fun k v15 v16 wr => ∃ j : Nat, j + k = roots.length ∧ v16 = .int .i64 (j : Int) ∧ Aside0 (Below wL.heap.size wL wr) ∧ Aside0 (wr.ownsRow wL.heap.size 3 1 v15 ((roots.take j).map (ref1 F)).length (nums .i64 ((roots.take j).map (ref1 F)))))
          case atStart => exact ⟨0, by omega, rfl, ⟨Below.refl _ _⟩, HOUT⟩
          case round =>
            clear HOUT
            obtain ⟨j, hjk, rfl, HBL, HOW⟩ := hrel
            have p0 : (0 : Int) ≤ (j : Int) := by omega
            have HRj : Aside0 (Kd.C (Kd.int .i64) wr A roots.length roots) := ⟨HR.out _ (HCL.out.trans (Q := fun _ => False) (Chg.of_below HBL.out) (fun k hk => hk.elim))⟩
            by_cases hj : j < roots.length
            · have p1 : (j : Int) < (roots.length : Int) := by omega
              have p1' : decide (j < roots.length) = true := by simp; omega
              obtain ⟨ad, rfl, y0⟩ := Kd.at_int HRj.out (j : Int) (by omega) (by omega)
              have e0 : rd roots (j : Int) = roots.getD j 0 := by unfold rd; rw [Int.toNat_natCast]
              rw [Int.toNat_natCast, e0] at y0
              have HTK : Aside0 ((roots.take (j + 1)).map (ref1 F) = (roots.take j).map (ref1 F) ++ [ref1 F (roots.getD j 0)]) := ⟨by
                rw [List.take_succ_eq_append_getElem hj, List.map_append, List.getD_eq_getElem?_getD, List.getElem?_eq_getElem hj]; rfl⟩
              have HLN : Aside0 (((roots.take j).map (ref1 F)).length ≤ 1000000) := ⟨by rw [List.length_map, List.length_take]; omega⟩
              have H46 : Aside0 (∀ wx, Below wL.heap.size wL wx → Calls Try.prog 46 #[.slice A6 old.length c6, .slice A7 now.length c7, .int .i64 (roots.getD j 0)] wx fun e w' => e = .returned (.int .i64 (ref1 F (roots.getD j 0))) ∧ w' = wx) := ⟨fun wx hb => by
                have hx := HRL.out.below hb
                obtain ⟨B6, d6, e6, _, g6⟩ := own_C hx.o6
                obtain ⟨B7, d7, e7, _, g7⟩ := own_C hx.o7
                injection e6 with e6 _ _; subst e6
                injection e7 with e7 _ _; subst e7
                have := rmoved_still (c0 := c6) (c1 := c7) g6 g7 HLO.out (by omega) (roots.getD j 0)
                rw [HMOV.out] at this
                exact this⟩
              clear e0 HRj
              generalize roots.getD j 0 = x at *
              generalize (roots.take j).map (ref1 F) = L at *
              go_wp2_with (first | (go_at_call 46; (with_reducible refine (H46.out _ HBL.out).mono ?_); rintro e w10 ⟨rfl, e10⟩; subst e10; clear y0) | ((with_reducible refine gate_dst (N := 133) rfl ?_); at_builtin; refine app_new rfl (.tmp 124) (.tmp 132) 30 3 (.int .i64 0) 1 8 rfl Try.underlying30 info3q rfl (by decide) rfl HOW.out _ 1 rfl rfl (fun u hu => by simp at hu; subst hu; rfl) (by have := HLN.out; omega) (by have := HLN.out; omega) HBL.out.size ?_; intro v11 w11 ho11 hg11; have HOW2 := Aside0.mk (own_push (x := ref1 F x) rfl ho11); have HBL2 : Aside0 (Below wL.heap.size wL w11) := ⟨(HBL.out.alloc HBL.out.size _).grown hg11 (Nat.le_trans HBL.out.size (by simp)) (fun k hk => (own_row_lt HOW.out k hk).2)⟩; clear ho11 hg11))
              go_roundg (roots.length - (j + 1))
              case measure => omega
              case rel => exact ⟨j + 1, by omega, by go_num, HBL2, by rw [HTK.out]; exact HOW2⟩
            · have p1' : decide (j < roots.length) = false := by simp; omega
              have hje : roots.take j = roots := List.take_of_length_le (by omega)
              rw [hje] at HOW
              go_wp2_with fail
              (try go_ret)
              have hsz : w.heap.size ≤ wL.heap.size := HCL.out.size
              refine ⟨_, rfl, ?_, ⟨kl.map (fun t => ⟨mvT (cvt ls) F t.t, t.b⟩), _, ?_, (HRL.out.below HBL.out).fin (w0 := w) (by rw [HZ.out]; exact hbase) (by rw [HZ.out]; exact Nat.le_refl _) (Nat.le_trans hsz HBL.out.size) HKL.out, ?_⟩, HCL.out.trans (Q := fun _ => False) (Chg.of_below HBL.out) (fun k hk => hk.elim)⟩
              · have := own_lower HOW.out hsz
                rw [List.length_map] at this
                rw [← HFE.out]; exact this
              · unfold clrT
                rw [← HFE.out, ← HKT.out, List.map_map, List.map_map]; rfl
              · refine HF.out.clr S ?_
                unfold clrT
                rw [← HFE.out, ← HKT.out, List.map_map, List.map_map]; rfl
end
end Go.Proofs.Ytibhjlmffgabgaa.PAll
