/-
  The walk of Order's closure: places are freed till none is left. Printed by wip/moves/drain.py.
-/
import Derived.Test.YtjolnfhgiddafaaMovesWorld
namespace Go.Proofs.Ytjolnfhgiddafaa.PAll
open Go.RowKit Go.Proofs.YtjolnfhgiddafaaW.PrintWords Go.Proofs.YtjolnfhgiddafaaW.PrintLast Go.Proofs.YtjolnfhgiddafaaW.PrintMore
open Go.Proofs.Ytjolnfhgiddafaa.MapInt Go.Proofs.Ytjolnfhgiddafaa.Moves
set_option linter.unusedVariables false
set_option linter.unusedSimpArgs false
theorem zero3 (w : World) : (zeroValue 3).run Try.prog w = .ok (.int .i64 0) w := by kernel_rfl
theorem oi24 : (Try.prog.info? 24).map (·.size) = some 1 := by kernel_rfl
theorem oi22 : (Try.prog.info? 22).map (·.size) = some 1 := by kernel_rfl
theorem oi38 : (Try.prog.info? 38).map (·.size) = some 1 := by kernel_rfl
theorem oi35 : (Try.prog.info? 35).map (fun i => (i.zero, i.size, i.bytes)) = some (some (.agg #[.int .i64 0, .int .i64 0]), 2, 16) := by kernel_rfl
theorem own_one {w : World} {base n : Nat} {e : TypeId} {size : Nat} {v : Value} {xs : List Value} (h : w.ownsRow base e size v n xs) : v.oneCell' = true := by
  obtain ⟨A, c, rfl⟩ := MapInt.own_slice' h; rfl
theorem q_one {w : World} {base n : Nat} {e : TypeId} {size : Nat} {v : Value} {xs : List Value} (h : QRow w base e size v n xs) : v.oneCell' = true := by
  obtain ⟨A, c, rfl, _⟩ := q_slice h; rfl
theorem w_small (n : Int) (h0 : -1000000000 ≤ n) (h1 : n ≤ 1000000000) : wrap64 n = n := by unfold wrap64; omega
theorem upd_same (f : Int → Option Int) (x v : Int) : (upd f x v x).getD 0 = v := by unfold upd; simp
structure WF (rem : List E) (free : List Int) : Prop where
  nd : (keys rem).Nodup
  fnd : free.Nodup
  fr : ∀ t ∈ free, t ∈ keys rem ∧ cnt rem t = 0
  inr : ∀ e ∈ rem, inR e.1 ∧ inR e.2
theorem WF.step {rem : List E} {t a : Int} {free : List Int} (h : WF rem (t :: free)) (ha : (t, a) ∈ rem) : WF (rid rem t) (nextFree (rid rem t) free a) := by
  obtain ⟨hl, hcn⟩ := rid_len h.nd ha
  have hfn := List.nodup_cons.1 h.fnd
  refine ⟨nd_rid h.nd t, ?_, ?_, fun e he => h.inr e (mem_rid.1 he).1⟩
  · unfold nextFree
    split
    · rw [List.nodup_append]
      refine ⟨hfn.2, by simp, ?_⟩
      intro x hx y hy
      rw [List.mem_singleton] at hy; subst hy
      rintro rfl
      have := (h.fr x (List.mem_cons_of_mem _ hx)).2
      exact cnt_zero.1 this _ ha rfl
    · exact hfn.2
  · intro y hy
    rcases mem_nextFree.1 hy with hy' | ⟨rfl, h1, h2⟩
    · obtain ⟨k1, k2⟩ := h.fr y (List.mem_cons_of_mem _ hy')
      have := hcn y
      exact ⟨keys_rid.2 ⟨k1, fun e => hfn.1 (e ▸ hy')⟩, by omega⟩
    · exact ⟨h2, h1⟩
theorem cnt_le (rem : List E) (y : Int) : cnt rem y ≤ rem.length := by unfold cnt; exact List.length_filter_le _ _
theorem keys_le : ∀ (free : List Int) (rem : List E), free.Nodup → (∀ t ∈ free, t ∈ keys rem) → free.length ≤ rem.length
  | [], _, _, _ => Nat.zero_le _
  | t :: free, rem, hn, hs => by
    obtain ⟨a, ha⟩ := mem_keys.1 (hs t (List.mem_cons_self ..))
    have hn' := List.nodup_cons.1 hn
    have h1 : (rid rem t).length < rem.length := by
      unfold rid
      refine Nat.lt_of_le_of_ne (List.length_filter_le _ _) (fun e => ?_)
      have := List.length_filter_eq_length_iff.1 e _ ha
      simp at this
    have := keys_le free (rid rem t) hn'.2 (fun x hx => keys_rid.2 ⟨hs x (List.mem_cons_of_mem _ hx), fun e => hn'.1 (e ▸ hx)⟩)
    simp; omega
theorem cntF_step {rem : List E} {t a : Int} {fR : Int → Option Int} (hn : (keys rem).Nodup) (ha : (t, a) ∈ rem) (h : ∀ y, (fR y).getD 0 = (cnt rem y : Int)) : ∀ y, (upd fR a ((cnt (rid rem t) a : Nat) : Int) y).getD 0 = (cnt (rid rem t) y : Int) := by
  intro y
  have := (rid_len hn ha).2 y
  unfold upd
  by_cases e : y = a
  · subst e; simp
  · rw [if_neg e, h y]
    rw [if_neg (fun h => e h.symm)] at this
    omega
set_option maxHeartbeats 8000000 in
set_option maxRecDepth 100000 in
theorem drain_calls (W0 w : World) (bF bR bO bE mF mR n : Nat) (fR : Int → Option Int) (vO vE : Value) (k : Nat) (rem : List E) (free : List Int) (out : List E)
    (h : OSt W0 w bF bR bO bE mF mR n (val rem) fR vO vE vO vE free out) (hR : ∀ y, (fR y).getD 0 = (cnt rem y : Int)) (hw : WF rem free) (hk : rem.length ≤ k) (hl : out.length + rem.length ≤ 100000) (hb : n + rem.length ≤ 1000000000000) :
    Calls Try.prog 14 #[.pointer (some ⟨bE, 0, none⟩), .pointer (some ⟨bF, 0, none⟩), .pointer (some ⟨bO, 0, none⟩), .pointer (some ⟨bR, 0, none⟩)] w fun e w' => e = .returned (.tuple #[]) ∧
      ∃ n' fR' vO' vE', OSt W0 w' bF bR bO bE mF mR n' (val (drainF k rem free out).1) fR' vO' vE' vO' vE' [] (drainF k rem free out).2 ∧ (∀ y, (fR' y).getD 0 = (cnt (drainF k rem free out).1 y : Int)) ∧ n' ≤ n + rem.length := by
  have HI := Aside0.mk h
  obtain ⟨i3, hi3, hz3, hs3, hb3⟩ := info_split (P := Try.prog) info3
  generalize hres : drainF k rem free out = R
  obtain ⟨M, hM⟩ : ∃ M, M = n + rem.length := ⟨_, rfl⟩
  rw [← hM] at hb ⊢
  have H0 : Aside0 (drainF k rem free out = R ∧ WF rem free ∧ rem.length ≤ k ∧ out.length + rem.length ≤ 100000 ∧ n + rem.length ≤ M ∧ ∀ y, (fR y).getD 0 = (cnt rem y : Int)) := ⟨hres, hw, hk, hl, by omega, hR⟩
  have HN := Aside0.mk hb
  clear hM
  clear hres hw hk hl hb hR h
  go_enter Try.func14, Try.ntmps14
  go_wp2_with fail
  go_loopg [] k (fun k wr => ∃ (rem : List E) (free : List Int) (out : List E) (n : Nat) (fR : Int → Option Int) (vO vE : Value), Aside0 (OSt W0 wr bF bR bO bE mF mR n (val rem) fR vO vE vO vE free out) ∧ Aside0 (drainF k rem free out = R ∧ WF rem free ∧ rem.length ≤ k ∧ out.length + rem.length ≤ 100000 ∧ n + rem.length ≤ M ∧ ∀ y, (fR y).getD 0 = (cnt rem y : Int)))
  case atStart => exact ⟨rem, free, out, n, fR, vO, vE, HI, H0⟩
  case round =>
    clear HI H0
    obtain ⟨rem, free, out, n, fR, vO, vE, HS, H0⟩ := hrel
    obtain ⟨A0, c0, e0, hc0⟩ := q_slice HS.out.rE
    subst e0
    cases free with
    | nil =>
      go_wp2_with (first | (refine cell_load rfl 24 (.tmp 0) rfl Try.underlying24 rfl rfl (HS.out.hE.cell rfl) ?_) | (refine cell_load rfl 38 (.tmp 1) rfl Try.underlying38 rfl rfl (HS.out.hF.cell rfl) ?_) | (refine cell_load rfl 22 (.tmp 2) rfl Try.underlying22 rfl rfl (HS.out.hO.cell rfl) ?_) | (refine cell_load rfl 38 (.tmp 3) rfl Try.underlying38 rfl rfl (HS.out.hR.cell rfl) ?_))
      go_end0
      refine ⟨rfl, n, fR, vO, .slice A0 ([] : List Int).length c0, ?_⟩
      have he : (rem, out) = R := by
        rw [← H0.out.1]
        cases gk <;> rfl
      rw [← he]
      exact ⟨HS.out, H0.out.2.2.2.2.2, by have := H0.out.2.2.2.2.1; omega⟩
    | cons t free =>
      have hfr := H0.out.2.1.fr t (List.mem_cons_self ..)
      obtain ⟨a, ha⟩ := mem_keys.1 hfr.1
      have hva0 := val_some H0.out.2.1.nd ha
      have hva : Aside0 ((val rem t).getD 0 = a) := ⟨by rw [hva0]; rfl⟩
      have hra : Aside0 ((fR a).getD 0 = (cnt rem a : Int)) := ⟨H0.out.2.2.2.2.2 a⟩
      have hcn := (rid_len H0.out.2.1.nd ha).2 a
      rw [if_pos rfl] at hcn
      have hcn' : (cnt rem a : Int) = (cnt (rid rem t) a : Int) + 1 := by omega
      have hln := (rid_len H0.out.2.1.nd ha).1
      have hcl := cnt_le rem a
      have hL0 := H0.out.2.2.2.1
      have HT : Aside0 (inR t) := ⟨(H0.out.2.1.inr _ ha).1⟩
      have HA : Aside0 (inR a) := ⟨(H0.out.2.1.inr _ ha).2⟩
      have hoL : out.length ≤ 100000 := by omega
      have hcL : (cnt rem a : Int) ≤ 100000 := by omega
      have hnM : n < 1000000000001 := by have := H0.out.2.2.2.2.1; have := HN.out; omega
      have HL : Aside0 (free.length ≤ 100000) := ⟨by have h1 := keys_le (t :: free) rem H0.out.2.1.fnd (fun x hx => (H0.out.2.1.fr x hx).1); simp at h1; omega⟩
      have hlen1 : ((free.length + 1 : Nat) : Int) > 0 := by omega
      have HW := Aside0.mk (H0.out.2.1.step ha)
      have HC := Aside0.mk (cntF_step H0.out.2.1.nd ha H0.out.2.2.2.2.2)
      have H1 : Aside0 (drainF gk rem (t :: free) out = R ∧ 0 < gk) := ⟨H0.out.1, by have := H0.out.2.2.1; have := List.length_pos_of_mem ha; omega⟩
      obtain ⟨g, rfl⟩ : ∃ g, gk = g + 1 := ⟨gk - 1, by have := H1.out.2; omega⟩
      have HE : Aside0 (drainF g (rid rem t) (nextFree (rid rem t) free a) (out ++ [(t, a)]) = R) := ⟨by rw [← H1.out.1]; show _ = drainF g (rid rem t) (nextFree (rid rem t) free ((val rem t).getD 0)) (out ++ [(t, (val rem t).getD 0)]); rw [hva.out]⟩
      have HM : Aside0 (rem.length ≤ g + 1 ∧ out.length + rem.length ≤ 100000 ∧ n + rem.length ≤ M ∧ (rid rem t).length + 1 = rem.length) := ⟨H0.out.2.2.1, hL0, H0.out.2.2.2.2.1, hln⟩
      have hsub : wrap64 ((cnt rem a : Int) - 1) = (cnt (rid rem t) a : Int) := by rw [hcn', w_small _ (by omega) (by omega)]; omega
      obtain ⟨ad, rfl, hcl0⟩ := q_cells HS.out.rE (by simp)
      have hcA := hcl0 0 (.int .i64 t) rfl
      have hcB : wr.cell? ad = some (.int .i64 t) := by
        have : ad.add 0 = ad := by unfold Addr.add; simp
        rw [← this]; exact hcA
      clear hcl0 hva0 hfr hln hcl hL0 H0 H1 hcn
      generalize hcc : (cnt (rid rem t) a : Int) = c at *
      generalize hdd : (cnt rem a : Int) = d at *
      simp only [List.length_cons] at *
      by_cases hz : c = 0
      · have hz' : cnt (rid rem t) a = 0 := by omega
        subst hz
        by_cases hin : a ∈ keys (rid rem t)
        · have hvv : Aside0 ((val (rid rem t) a).isSome = true) := ⟨by rw [val_isSome HW.out.nd]; simpa using hin⟩
          rw [show nextFree (rid rem t) free a = free ++ [a] from if_pos ⟨hz', hin⟩] at HE HW
          clear hcc hdd hz' hin hcn'
          go_wp2_with (first | (refine cell_load rfl 24 (.tmp 0) rfl Try.underlying24 rfl rfl (HS.out.hE.cell rfl) ?_) | (refine cell_load rfl 38 (.tmp 1) rfl Try.underlying38 rfl rfl (HS.out.hF.cell rfl) ?_) | (refine cell_load rfl 22 (.tmp 2) rfl Try.underlying22 rfl rfl (HS.out.hO.cell rfl) ?_) | (refine cell_load rfl 38 (.tmp 3) rfl Try.underlying38 rfl rfl (HS.out.hR.cell rfl) ?_) | (refine q_tail rfl (.tmp 14) 24 3 rfl Try.underlying24 hi3 hs3 rfl (n := free.length) HS.out.rE ?_; intro v1 hq1 hsl1 ho1; have n_ := Aside0.mk (HS.out.tail (free' := free) hq1); clear HS; have HS := n_; clear n_; clear hq1) | (refine cell_store rfl 24 (.tmp 0) (.tmp 15) rfl oi24 rfl rfl ho1 HS.out.hE Nat.zero_lt_one ?_; intro w2 hb2 hg2 hz2; have n_ := Aside0.mk (HS.out.boxE hb2 hg2); clear HS; have HS := n_; clear n_; clear hb2 hg2 hz2) | (at_lookup; refine MapInt.lookv Try.underlying3 rfl (.tmp 16) _ 38 rfl Try.underlying38 (zero3 _) rfl HS.out.iF rfl HT.out hva.out ?_) | (at_builtin; refine app_new rfl (.tmp 19) (.tmp 23) 22 35 (.agg #[.int .i64 0, .int .i64 0]) 2 16 rfl Try.underlying22 oi35 rfl (by decide) rfl HS.out.rO _ 1 rfl rfl (fun u hu => by simp at hu; rcases hu with rfl | rfl <;> rfl) (by omega) (by omega) HS.out.bel.size ?_; intro v2 w3 ho hg; have n_ := Aside0.mk (HS.out.made (out' := out ++ [(t, a)]) (by rw [List.length_append, cellsE_app]; exact ho) hg); clear HS; have HS := n_; clear n_; clear ho hg) | (refine cell_store rfl 22 (.tmp 2) (.tmp 24) rfl oi22 rfl rfl (own_one HS.out.rO) HS.out.hO Nat.zero_lt_one ?_; intro w2 hb2 hg2 hz2; have n_ := Aside0.mk (HS.out.boxO hb2 hg2); clear HS; have HS := n_; clear n_; clear hb2 hg2 hz2) | (at_delete; refine MapInt.drop Try.underlying3 rfl (.tmp 25) _ 38 rfl Try.underlying38 rfl HS.out.iF rfl HT.out ?_; intro w2 hm2 hg2 hz2; have n_ := Aside0.mk ((HS.out.mapF hm2 hg2 (Nat.le_refl _)).funs (val_rid t) rfl); clear HS; have HS := n_; clear n_; clear hm2 hg2 hz2) | (at_lookup; refine MapInt.lookv Try.underlying3 rfl (.tmp 27) _ 38 rfl Try.underlying38 (zero3 _) rfl HS.out.iR rfl HA.out hra.out ?_) | (at_mapUpdate; refine MapInt.store Try.underlying3 rfl (.tmp 27) _ _ 38 rfl Try.underlying38 rfl HS.out.iR (by omega) rfl rfl HA.out (by unfold inR; omega) ?_; intro w2 hm2 hg2 hz2; have n_ := Aside0.mk (HS.out.mapR hm2 hg2 (Nat.le_succ _)); clear HS; have HS := n_; clear n_; clear hm2 hg2 hz2) | (at_lookup; refine MapInt.lookv Try.underlying3 rfl (.tmp 31) _ 38 rfl Try.underlying38 (zero3 _) rfl HS.out.iR rfl HA.out (upd_same _ _ _) ?_) | (at_lookup; refine MapInt.lookv_ok Try.underlying3 rfl (.tmp 36) _ 38 rfl Try.underlying38 (zero3 _) rfl HS.out.iF rfl HA.out hvv.out ?_) | (at_builtin; refine q_app_new rfl (.tmp 42) (.tmp 44) 24 3 (.int .i64 0) 1 8 rfl Try.underlying24 info3 rfl (by decide) rfl HS.out.rE _ 1 rfl rfl (fun u hu => by simp at hu; subst hu; rfl) (by decide) (by have := HL.out; omega) (by have := HL.out; omega) HS.out.bel.size ?_; intro v3 w3 ho hg; have n_ := Aside0.mk (HS.out.freed (free' := free ++ [a]) (by rw [List.length_append, nums_append]; exact ho) hg); clear HS; have HS := n_; clear n_; clear ho hg) | (refine cell_store rfl 24 (.tmp 0) (.tmp 45) rfl oi24 rfl rfl (q_one HS.out.rE) HS.out.hE Nat.zero_lt_one ?_; intro w2 hb2 hg2 hz2; have n_ := Aside0.mk (HS.out.boxE hb2 hg2); clear HS; have HS := n_; clear n_; clear hb2 hg2 hz2))
          go_roundg g
          case measure => omega
          case rel => exact ⟨rid rem t, free ++ [a], out ++ [(t, a)], n + 1, _, _, _, HS, ⟨HE.out, HW.out, by have := HM.out; omega, by have := HM.out; simp; omega, by have := HM.out; omega, by rw [hsub]; exact HC.out⟩⟩
        · have hvv : Aside0 ((val (rid rem t) a).isSome = false) := ⟨by rw [val_isSome HW.out.nd]; simpa using hin⟩
          rw [show nextFree (rid rem t) free a = free from if_neg (fun h => hin h.2)] at HE HW
          clear hcc hdd hz' hin hcn'
          go_wp2_with (first | (refine cell_load rfl 24 (.tmp 0) rfl Try.underlying24 rfl rfl (HS.out.hE.cell rfl) ?_) | (refine cell_load rfl 38 (.tmp 1) rfl Try.underlying38 rfl rfl (HS.out.hF.cell rfl) ?_) | (refine cell_load rfl 22 (.tmp 2) rfl Try.underlying22 rfl rfl (HS.out.hO.cell rfl) ?_) | (refine cell_load rfl 38 (.tmp 3) rfl Try.underlying38 rfl rfl (HS.out.hR.cell rfl) ?_) | (refine q_tail rfl (.tmp 14) 24 3 rfl Try.underlying24 hi3 hs3 rfl (n := free.length) HS.out.rE ?_; intro v1 hq1 hsl1 ho1; have n_ := Aside0.mk (HS.out.tail (free' := free) hq1); clear HS; have HS := n_; clear n_; clear hq1) | (refine cell_store rfl 24 (.tmp 0) (.tmp 15) rfl oi24 rfl rfl ho1 HS.out.hE Nat.zero_lt_one ?_; intro w2 hb2 hg2 hz2; have n_ := Aside0.mk (HS.out.boxE hb2 hg2); clear HS; have HS := n_; clear n_; clear hb2 hg2 hz2) | (at_lookup; refine MapInt.lookv Try.underlying3 rfl (.tmp 16) _ 38 rfl Try.underlying38 (zero3 _) rfl HS.out.iF rfl HT.out hva.out ?_) | (at_builtin; refine app_new rfl (.tmp 19) (.tmp 23) 22 35 (.agg #[.int .i64 0, .int .i64 0]) 2 16 rfl Try.underlying22 oi35 rfl (by decide) rfl HS.out.rO _ 1 rfl rfl (fun u hu => by simp at hu; rcases hu with rfl | rfl <;> rfl) (by omega) (by omega) HS.out.bel.size ?_; intro v2 w3 ho hg; have n_ := Aside0.mk (HS.out.made (out' := out ++ [(t, a)]) (by rw [List.length_append, cellsE_app]; exact ho) hg); clear HS; have HS := n_; clear n_; clear ho hg) | (refine cell_store rfl 22 (.tmp 2) (.tmp 24) rfl oi22 rfl rfl (own_one HS.out.rO) HS.out.hO Nat.zero_lt_one ?_; intro w2 hb2 hg2 hz2; have n_ := Aside0.mk (HS.out.boxO hb2 hg2); clear HS; have HS := n_; clear n_; clear hb2 hg2 hz2) | (at_delete; refine MapInt.drop Try.underlying3 rfl (.tmp 25) _ 38 rfl Try.underlying38 rfl HS.out.iF rfl HT.out ?_; intro w2 hm2 hg2 hz2; have n_ := Aside0.mk ((HS.out.mapF hm2 hg2 (Nat.le_refl _)).funs (val_rid t) rfl); clear HS; have HS := n_; clear n_; clear hm2 hg2 hz2) | (at_lookup; refine MapInt.lookv Try.underlying3 rfl (.tmp 27) _ 38 rfl Try.underlying38 (zero3 _) rfl HS.out.iR rfl HA.out hra.out ?_) | (at_mapUpdate; refine MapInt.store Try.underlying3 rfl (.tmp 27) _ _ 38 rfl Try.underlying38 rfl HS.out.iR (by omega) rfl rfl HA.out (by unfold inR; omega) ?_; intro w2 hm2 hg2 hz2; have n_ := Aside0.mk (HS.out.mapR hm2 hg2 (Nat.le_succ _)); clear HS; have HS := n_; clear n_; clear hm2 hg2 hz2) | (at_lookup; refine MapInt.lookv Try.underlying3 rfl (.tmp 31) _ 38 rfl Try.underlying38 (zero3 _) rfl HS.out.iR rfl HA.out (upd_same _ _ _) ?_) | (at_lookup; refine MapInt.lookv_ok Try.underlying3 rfl (.tmp 36) _ 38 rfl Try.underlying38 (zero3 _) rfl HS.out.iF rfl HA.out hvv.out ?_) | (at_builtin; refine q_app_new rfl (.tmp 42) (.tmp 44) 24 3 (.int .i64 0) 1 8 rfl Try.underlying24 info3 rfl (by decide) rfl HS.out.rE _ 1 rfl rfl (fun u hu => by simp at hu; subst hu; rfl) (by decide) (by have := HL.out; omega) (by have := HL.out; omega) HS.out.bel.size ?_; intro v3 w3 ho hg; have n_ := Aside0.mk (HS.out.freed (free' := free ++ [a]) (by rw [List.length_append, nums_append]; exact ho) hg); clear HS; have HS := n_; clear n_; clear ho hg) | (refine cell_store rfl 24 (.tmp 0) (.tmp 45) rfl oi24 rfl rfl (q_one HS.out.rE) HS.out.hE Nat.zero_lt_one ?_; intro w2 hb2 hg2 hz2; have n_ := Aside0.mk (HS.out.boxE hb2 hg2); clear HS; have HS := n_; clear n_; clear hb2 hg2 hz2))
          go_roundg g
          case measure => omega
          case rel => exact ⟨rid rem t, free, out ++ [(t, a)], n + 1, _, _, _, HS, ⟨HE.out, HW.out, by have := HM.out; omega, by have := HM.out; simp; omega, by have := HM.out; omega, by rw [hsub]; exact HC.out⟩⟩
      · have hz' : ¬ cnt (rid rem t) a = 0 := by omega
        rw [show nextFree (rid rem t) free a = free from if_neg (fun h => hz' h.1)] at HE HW
        have hc0' : 0 ≤ c := by omega
        have hc1' : c ≤ 100000 := by omega
        clear hcc hdd hz' hcn'
        go_wp2_with (first | (refine cell_load rfl 24 (.tmp 0) rfl Try.underlying24 rfl rfl (HS.out.hE.cell rfl) ?_) | (refine cell_load rfl 38 (.tmp 1) rfl Try.underlying38 rfl rfl (HS.out.hF.cell rfl) ?_) | (refine cell_load rfl 22 (.tmp 2) rfl Try.underlying22 rfl rfl (HS.out.hO.cell rfl) ?_) | (refine cell_load rfl 38 (.tmp 3) rfl Try.underlying38 rfl rfl (HS.out.hR.cell rfl) ?_) | (refine q_tail rfl (.tmp 14) 24 3 rfl Try.underlying24 hi3 hs3 rfl (n := free.length) HS.out.rE ?_; intro v1 hq1 hsl1 ho1; have n_ := Aside0.mk (HS.out.tail (free' := free) hq1); clear HS; have HS := n_; clear n_; clear hq1) | (refine cell_store rfl 24 (.tmp 0) (.tmp 15) rfl oi24 rfl rfl ho1 HS.out.hE Nat.zero_lt_one ?_; intro w2 hb2 hg2 hz2; have n_ := Aside0.mk (HS.out.boxE hb2 hg2); clear HS; have HS := n_; clear n_; clear hb2 hg2 hz2) | (at_lookup; refine MapInt.lookv Try.underlying3 rfl (.tmp 16) _ 38 rfl Try.underlying38 (zero3 _) rfl HS.out.iF rfl HT.out hva.out ?_) | (at_builtin; refine app_new rfl (.tmp 19) (.tmp 23) 22 35 (.agg #[.int .i64 0, .int .i64 0]) 2 16 rfl Try.underlying22 oi35 rfl (by decide) rfl HS.out.rO _ 1 rfl rfl (fun u hu => by simp at hu; rcases hu with rfl | rfl <;> rfl) (by omega) (by omega) HS.out.bel.size ?_; intro v2 w3 ho hg; have n_ := Aside0.mk (HS.out.made (out' := out ++ [(t, a)]) (by rw [List.length_append, cellsE_app]; exact ho) hg); clear HS; have HS := n_; clear n_; clear ho hg) | (refine cell_store rfl 22 (.tmp 2) (.tmp 24) rfl oi22 rfl rfl (own_one HS.out.rO) HS.out.hO Nat.zero_lt_one ?_; intro w2 hb2 hg2 hz2; have n_ := Aside0.mk (HS.out.boxO hb2 hg2); clear HS; have HS := n_; clear n_; clear hb2 hg2 hz2) | (at_delete; refine MapInt.drop Try.underlying3 rfl (.tmp 25) _ 38 rfl Try.underlying38 rfl HS.out.iF rfl HT.out ?_; intro w2 hm2 hg2 hz2; have n_ := Aside0.mk ((HS.out.mapF hm2 hg2 (Nat.le_refl _)).funs (val_rid t) rfl); clear HS; have HS := n_; clear n_; clear hm2 hg2 hz2) | (at_lookup; refine MapInt.lookv Try.underlying3 rfl (.tmp 27) _ 38 rfl Try.underlying38 (zero3 _) rfl HS.out.iR rfl HA.out hra.out ?_) | (at_mapUpdate; refine MapInt.store Try.underlying3 rfl (.tmp 27) _ _ 38 rfl Try.underlying38 rfl HS.out.iR (by omega) rfl rfl HA.out (by unfold inR; omega) ?_; intro w2 hm2 hg2 hz2; have n_ := Aside0.mk (HS.out.mapR hm2 hg2 (Nat.le_succ _)); clear HS; have HS := n_; clear n_; clear hm2 hg2 hz2) | (at_lookup; refine MapInt.lookv Try.underlying3 rfl (.tmp 31) _ 38 rfl Try.underlying38 (zero3 _) rfl HS.out.iR rfl HA.out (upd_same _ _ _) ?_))
        go_roundg g
        case measure => omega
        case rel => exact ⟨rid rem t, free, out ++ [(t, a)], n + 1, _, _, _, HS, ⟨HE.out, HW.out, by have := HM.out; omega, by have := HM.out; simp; omega, by have := HM.out; omega, by rw [hsub]; exact HC.out⟩⟩

end Go.Proofs.Ytjolnfhgiddafaa.PAll
