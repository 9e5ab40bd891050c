import Derived.Test.YtibhjlmffgabgaaZRefReach
namespace Go.Proofs.Ytibhjlmffgabgaa.PAll
open Go.RowKit Go.Proofs.YtibhjlmffgabgaaW.PrintWords Go.Proofs.YtibhjlmffgabgaaW.PrintLast Go.Proofs.YtibhjlmffgabgaaW.PrintMore
open Go.Proofs.Ytibhjlmffgabgaa.MapInt
set_option linter.unusedVariables false
set_option linter.unusedSimpArgs false
theorem keep_take (shs : List S65) (S : Int → Bool) {T : List Thg} {i : Nat} {t : Thg} (h : T[i]? = some t) : keepT shs S (T.take (i + 1)) 1 = keepT shs S (T.take i) 1 ++ (if S ((1 + sumT shs (T.take i) : Nat) : Int) = true then [t] else []) := by
  rw [List.take_add_one, h]
  exact keep_snoc shs S t (T.take i) 1
theorem sum_snoc1 (shs : List S65) (T : List Thg) (t : Thg) : sumT shs (T ++ [t]) = sumT shs T + tsz shs t := by unfold sumT; simp
section
variable {w w2 : World} {base g : Nat} {Q K : Nat → Prop} {most mv : Int} {ls : List SH} {ts : List TH} {shV thV : Value}
theorem ReachR.rch {shs : List S65} {T : List Thg} {roots : List Int} {w' : World} {b5 : Nat} (h : ReachR shs T roots w' b5) : Blk w' b5 4 (bC (seenL shs T (rchB shs T roots))) := by
  obtain ⟨S, h1, h2⟩ := h
  rw [← rchB_eq h2]; exact h1
set_option maxHeartbeats 8000000 in
set_option maxRecDepth 100000 in
theorem rreachN_calls (h : RM w base Q K g most ls ts mv shV thV) (hf : RF most ls ts) {A : Option Addr} {c : Nat} {roots : List Int} (hr : Kd.C (Kd.int .i64) w A roots.length roots) (hrl : roots.length ≤ 1000000) :
    Calls Try.prog 30 #[.pointer (some ⟨g, 0, none⟩), .slice A roots.length c] w fun e w' => e = .returned (.int .i64 (sumT (cvt ls) (keepT (cvt ls) (rchB (cvt ls) (ts.map (·.t)) roots) (ts.map (·.t)) 1) : Nat)) ∧ Below w.heap.size w w' := by
  have HM := Aside0.mk h
  have HF := Aside0.mk hf
  have H43 := Aside0.mk (rreached_calls h hf hr hrl (c := c))
  obtain ⟨A0, c0, hV⟩ := h.thL
  subst hV
  have hfew := hf.few
  have hb1 := hf.bnd.1
  have hb2 := hf.bnd.2
  clear h hf hr
  obtain ⟨S, hS⟩ : ∃ S, S = rchB (cvt ls) (ts.map (·.t)) roots := ⟨_, rfl⟩
  rw [← hS]
  have HS := Aside0.mk hS
  clear hS
  go_enter Try.func30, Try.ntmps30
  go_wp2_with (first | (go_at_call 43; (with_reducible refine (H43.out).mono ?_); rintro e w5 ⟨b5, rfl, hb5, hrr, hb⟩; have HB := Aside0.mk hb; have HBK := Aside0.mk hrr.rch; clear hb hrr))
  (try go_frame)
  rw [← HS.out] at HBK
  clear H43 HS
  go_loopg [6, 7] (ts.length) (fun k v6 v7 wr => ∃ i : Nat, i + k = ts.length ∧ v7 = .int .i64 (i : Int) ∧ v6 = .int .i64 (sumT (cvt ls) (keepT (cvt ls) S ((ts.map (·.t)).take i) 1) : Nat) ∧ Aside0 (Below w.heap.size w wr) ∧ Aside0 (Blk wr b5 4 (bC (seenL (cvt ls) (ts.map (·.t)) S))))
  case atStart => exact ⟨0, by omega, rfl, by simp [sumT, keepT], HB, HBK⟩
  case round =>
    clear HB HBK
    obtain ⟨i, hik, rfl, rfl, HR, HBK⟩ := hrel
    have q2 : (0 : Int) ≤ (i : Int) := by omega
    by_cases hlt : i < ts.length
    · obtain ⟨t, ht⟩ : ∃ t, ts[i]? = some t := ⟨_, List.getElem?_eq_getElem hlt⟩
      have hjT : i < (ts.map (·.t)).length := by rw [List.length_map]; exact hlt
      have HT := Aside0.mk ht
      have HKT := Aside0.mk (keep_take (cvt ls) S (T := ts.map (·.t)) (i := i) (t := t.t) (by rw [List.getElem?_map, ht]; rfl))
      have hks := keep_sum (cvt ls) S ((ts.map (·.t)).take (i + 1)) 1
      have ht2 := sum_take (cvt ls) (ts.map (·.t)) (i + 1)
      have hroom := HF.out.room
      have q1 : (i : Int) < (ts.length : Int) := by omega
      have q1' : decide (i < ts.length) = true := by simp; omega
      have HB5 := HBK.out.cell (bC_at (l := seenL (cvt ls) (ts.map (·.t)) S) (i := i) (by rw [seen_len]; exact hjT))
      rw [seen_at _ _ _ hjT] at HB5
      have hkt := HKT.out
      have ok := HF.out.things t (List.mem_of_getElem? ht)
      have H44 : Aside0 (∀ wx, Below w.heap.size w wx → Calls Try.prog 44 #[.pointer (some ⟨g, 0, none⟩), .agg #[.int .i64 (t.t.s : Int), .slice (some ⟨t.b, 0, none⟩) t.t.xs.length t.t.xs.length]] wx fun e w' => e = .returned (.int .i64 (tsz (cvt ls) t.t : Int)) ∧ Below wx.heap.size wx w') := ⟨fun wx hb => rtsz_calls (HM.out.below hb) HF.out ok _ _⟩
      cases hS : S ((1 + sumT (cvt ls) ((ts.map (·.t)).take i) : Nat) : Int) with
      | false =>
        rw [hS] at HB5 HKT hkt
        rw [if_neg (by decide), List.append_nil] at HKT hkt
        clear hkt hks ht2 hroom ok ht
        go_wp2_with fail
        go_roundg (ts.length - (i + 1))
        case measure => omega
        case rel => exact ⟨i + 1, by omega, by go_num, by rw [HKT.out], HR, HBK⟩
      | true =>
        rw [hS] at HB5 HKT hkt
        rw [if_pos rfl] at HKT hkt
        have c2 := (HM.out.below HR.out).c2
        obtain ⟨ad, c', e, y0, y1⟩ := (HM.out.below HR.out).thing ht
        injection e with e1 e2 e3
        subst e1; subst e3
        rw [hkt, sum_snoc1] at hks
        have q3 : (sumT (cvt ls) (keepT (cvt ls) S ((ts.map (·.t)).take i) 1) : Int) + (tsz (cvt ls) t.t : Int) ≤ 70000 := by omega
        have q4 : (0 : Int) ≤ (sumT (cvt ls) (keepT (cvt ls) S ((ts.map (·.t)).take i) 1) : Int) := by omega
        have q5 : (0 : Int) ≤ (tsz (cvt ls) t.t : Int) := by omega
        have HS1 : Aside0 (sumT (cvt ls) (keepT (cvt ls) S ((ts.map (·.t)).take (i + 1)) 1) = sumT (cvt ls) (keepT (cvt ls) S ((ts.map (·.t)).take i) 1) + tsz (cvt ls) t.t) := ⟨by rw [HKT.out, sum_snoc1]⟩
        clear hkt hks ht2 hroom ok ht HKT e2
        generalize sumT (cvt ls) (keepT (cvt ls) S ((ts.map (·.t)).take i) 1) = Z at *
        generalize tsz (cvt ls) t.t = z at *
        generalize t.t.xs.length = n at *
        generalize t.t.s = s at *
        go_wp2_with (first | (go_at_call 44; (with_reducible refine (H44.out _ HR.out).mono ?_); rintro e w5 ⟨rfl, hb5⟩; have HR5 := Aside0.mk (bel_then HR.out hb5); have HBK5 := Aside0.mk (HBK.out.below hb5); clear hb5))
        go_roundg (ts.length - (i + 1))
        case measure => omega
        case rel => exact ⟨i + 1, by omega, by go_num, by rw [HS1.out]; go_num, HR5, HBK5⟩
    · have hge : ts.length ≤ i := by omega
      have q1' : decide (i < ts.length) = false := by simp; omega
      have hT : (ts.map (·.t)).take i = ts.map (·.t) := List.take_of_length_le (by rw [List.length_map]; exact hge)
      rw [hT]
      go_wp2_with fail
      (try go_ret)
      exact ⟨rfl, HR.out⟩
end
end Go.Proofs.Ytibhjlmffgabgaa.PAll
