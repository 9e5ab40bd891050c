import Derived.Test.YtibhjlmffgabgaaZRefMem
namespace Go.Proofs.Ytibhjlmffgabgaa.PAll
open Go.RowKit Go.Proofs.YtibhjlmffgabgaaW.PrintWords Go.Proofs.YtibhjlmffgabgaaW.PrintLast Go.Proofs.YtibhjlmffgabgaaW.PrintMore
open Go.Proofs.Ytibhjlmffgabgaa.MapInt
set_option linter.unusedVariables false
set_option linter.unusedSimpArgs false
theorem bel_then {w w1 w2 : World} (h1 : Below w.heap.size w w1) (h2 : Below w1.heap.size w1 w2) : Below w.heap.size w w2 := h1.trans (h2.mono h1.size)
section
variable {w : World} {base g : Nat} {Q K : Nat → Prop} {most mv : Int} {ls : List SH} {ts : List TH} {shV thV : Value}
set_option maxHeartbeats 8000000 in
set_option maxRecDepth 100000 in
theorem rtsz_calls (h : RM w base Q K g most ls ts mv shV thV) (hf : RF most ls ts) {t : Thg} (ht : okT (cvt ls) t) (A : Option Addr) (c : Nat) :
    Calls Try.prog 44 #[.pointer (some ⟨g, 0, none⟩), .agg #[.int .i64 (t.s : Int), .slice A t.xs.length c]] w fun e w' => e = .returned (.int .i64 (tsz (cvt ls) t : Int)) ∧ Below w.heap.size w w' := by
  have H26 : Aside0 (∀ wx, Below w.heap.size w wx → Calls Try.prog 26 #[.pointer (some ⟨g, 0, none⟩), .int .i64 (t.s : Int), .int .i64 (t.xs.length : Int)] wx fun e w' => e = .returned (.int .i64 (tsz (cvt ls) t : Int)) ∧ Below wx.heap.size wx w') := ⟨fun wx hb => by have := rsize_calls (h.below hb) hf (t.s : Int) (t.xs.length : Int); rw [sizeF_thg ht] at this; exact this⟩
  have HB := Aside0.mk (Below.refl w.heap.size w)
  have hl := ht.2.2
  clear h hf ht
  generalize (tsz (cvt ls) t : Int) = z at *
  generalize t.xs.length = n at *
  generalize t.s = s at *
  go_enter Try.func44, Try.ntmps44
  go_wp2_with (first | (go_at_call 26; (with_reducible refine (H26.out _ (below_alloc HB.out _)).mono ?_); rintro e w5 ⟨rfl, hb5⟩; have HB5 := Aside0.mk (bel_then (below_alloc HB.out _) hb5); clear hb5))
  (try go_ret)
  exact ⟨rfl, HB5.out⟩
theorem sum_take (shs : List S65) (T : List Thg) (i : Nat) : sumT shs (T.take i) ≤ sumT shs T := by
  have : sumT shs T = sumT shs (T.take i) + sumT shs (T.drop i) := by
    unfold sumT
    rw [← List.sum_append, ← List.map_append, List.take_append_drop]
  omega
theorem sum_take_succ (shs : List S65) {T : List Thg} {i : Nat} {t : Thg} (h : T[i]? = some t) : sumT shs (T.take (i + 1)) = sumT shs (T.take i) + tsz shs t := by
  rw [List.take_add_one, h]
  unfold sumT
  simp
theorem RF.at_ {most : Int} {ls : List SH} {ts : List TH} (hf : RF most ls ts) {i : Nat} {t : TH} (h : ts[i]? = some t) : okT (cvt ls) t.t ∧ (sumT (cvt ls) ((ts.map (·.t)).take (i + 1)) = sumT (cvt ls) ((ts.map (·.t)).take i) + tsz (cvt ls) t.t) ∧ (sumT (cvt ls) ((ts.map (·.t)).take (i + 1)) : Int) ≤ most := by
  have h1 := hf.things t (List.mem_of_getElem? h)
  have h2 := sum_take_succ (cvt ls) (T := ts.map (·.t)) (i := i) (t := t.t) (by rw [List.getElem?_map, h]; rfl)
  have h3 := sum_take (cvt ls) (ts.map (·.t)) (i + 1)
  have h4 := hf.room
  exact ⟨h1, h2, by omega⟩
theorem RF.few {most : Int} {ls : List SH} {ts : List TH} (hf : RF most ls ts) : ts.length ≤ 65536 := by
  have h1 := len_sum (cvt ls) (ts.map (·.t))
  have h2 := hf.room
  have h3 := hf.bnd.2
  rw [List.length_map] at h1
  omega
set_option maxHeartbeats 8000000 in
set_option maxRecDepth 100000 in
theorem rfree_calls (h : RM w base Q K g most ls ts mv shV thV) (hf : RF most ls ts) :
    Calls Try.prog 31 #[.pointer (some ⟨g, 0, none⟩)] w fun e w' => e = .returned (.int .i64 (most - sumT (cvt ls) (ts.map (·.t)))) ∧ Below w.heap.size w w' := by
  have HM := Aside0.mk h
  have HF := Aside0.mk hf
  have HB := Aside0.mk (Below.refl w.heap.size w)
  obtain ⟨A, c, hV⟩ := h.thL
  subst hV
  have c0 := h.c0
  have hb1 := hf.bnd.1
  have hb2 := hf.bnd.2
  clear h hf
  go_enter Try.func31, Try.ntmps31
  go_wp2_with fail
  (try go_frame)
  clear c0
  go_loopg [3, 4] (ts.length) (fun k v3 v4 wr => ∃ i : Nat, i + k = ts.length ∧ v4 = .int .i64 (i : Int) ∧ v3 = .int .i64 (most - (sumT (cvt ls) ((ts.map (·.t)).take i) : Nat)) ∧ Aside0 (Below w.heap.size w wr))
  case atStart => exact ⟨0, by omega, rfl, by simp [sumT], HB⟩
  case round =>
    obtain ⟨i, hik, rfl, rfl, HR⟩ := hrel
    have c2 := (HM.out.below HR.out).c2
    by_cases hlt : i < ts.length
    · obtain ⟨t, ht⟩ : ∃ t, ts[i]? = some t := ⟨_, List.getElem?_eq_getElem hlt⟩
      obtain ⟨ok, hs, hr⟩ := HF.out.at_ ht
      obtain ⟨ad, c', e, y0, y1⟩ := (HM.out.below HR.out).thing ht
      injection e with e1 e2 e3
      subst e1; subst e3
      have H44 : Aside0 (∀ wx, Below w.heap.size w wx → Calls Try.prog 44 #[.pointer (some ⟨g, 0, none⟩), .agg #[.int .i64 (t.t.s : Int), .slice (some ⟨t.b, 0, none⟩) t.t.xs.length t.t.xs.length]] wx fun e w' => e = .returned (.int .i64 (tsz (cvt ls) t.t : Int)) ∧ Below wx.heap.size wx w') := ⟨fun wx hb => rtsz_calls (HM.out.below hb) HF.out ok _ _⟩
      have HS := Aside0.mk hs
      have q1 : (i : Int) < (ts.length : Int) := by omega
      have q2 : (0 : Int) ≤ (i : Int) := by omega
      have q3 : (sumT (cvt ls) ((ts.map (·.t)).take i) : Int) + (tsz (cvt ls) t.t : Int) ≤ most := by omega
      have q4 : (0 : Int) ≤ (sumT (cvt ls) ((ts.map (·.t)).take i) : Int) := by omega
      have q5 : (0 : Int) ≤ (tsz (cvt ls) t.t : Int) := by omega
      have q6 : (ts.length : Int) ≤ 70000 := by have := HF.out.few; omega
      clear ok hs hr ht e2
      generalize hS : sumT (cvt ls) ((ts.map (·.t)).take i) = S at *
      generalize tsz (cvt ls) t.t = z at *
      generalize t.t.xs.length = n at *
      generalize t.t.s = s at *
      go_wp2_with (first | (go_at_call 44; (with_reducible refine (H44.out _ HR.out).mono ?_); rintro e w5 ⟨rfl, hb5⟩; have HR5 := Aside0.mk (bel_then HR.out hb5); clear hb5))
      go_roundg (ts.length - (i + 1))
      case measure => omega
      case rel => exact ⟨i + 1, by omega, by go_num, by rw [HS.out]; go_num, HR5⟩
    · have hge : ts.length ≤ i := by omega
      have hT : sumT (cvt ls) ((ts.map (·.t)).take i) = sumT (cvt ls) (ts.map (·.t)) := by rw [List.take_of_length_le (by simpa using hge)]
      rw [hT]
      go_wp2_with fail
      (try go_ret)
      exact ⟨rfl, HR.out⟩
theorem find_at (shs : List S65) : ∀ (T : List Thg) (b i : Nat) (t : Thg), T[i]? = some t → findT shs T b ((b + sumT shs (T.take i) : Nat) : Int) = some t
  | [], _, _, _, h => by simp at h
  | u :: T, b, 0, t, h => by
    simp at h; subst h
    simp [findT, sumT]
  | u :: T, b, i + 1, t, h => by
    rw [List.getElem?_cons_succ] at h
    have h1 := find_at shs T (b + tsz shs u) i t h
    have h2 := tsz_pos shs u
    have h3 : sumT shs ((u :: T).take (i + 1)) = tsz shs u + sumT shs (T.take i) := by unfold sumT; simp
    unfold findT
    rw [if_neg (by rw [h3]; omega), h3, ← Nat.add_assoc]
    exact h1
theorem find_ix (shs : List S65) : ∀ (T : List Thg) (b : Nat) (a : Int) (t : Thg), findT shs T b a = some t → ∃ i, T[i]? = some t ∧ a = ((b + sumT shs (T.take i) : Nat) : Int)
  | [], _, _, _, h => by simp [findT] at h
  | u :: T, b, a, t, h => by
    unfold findT at h
    split at h
    · rename_i h1
      injection h with h; subst h
      exact ⟨0, rfl, by simp [sumT, h1]⟩
    · obtain ⟨i, h1, h2⟩ := find_ix shs T _ a t h
      refine ⟨i + 1, by rw [List.getElem?_cons_succ]; exact h1, ?_⟩
      have h3 : sumT shs ((u :: T).take (i + 1)) = tsz shs u + sumT shs (T.take i) := by unfold sumT; simp
      rw [h2, h3, ← Nat.add_assoc]
def FindR (ls : List SH) (ts : List TH) (a k : Int) : Prop := (k = -1 ∧ findT (cvt ls) (ts.map (·.t)) 1 a = none) ∨ ∃ (i : Nat) (t : TH), k = i ∧ ts[i]? = some t ∧ findT (cvt ls) (ts.map (·.t)) 1 a = some t.t ∧ a = ((1 + sumT (cvt ls) ((ts.map (·.t)).take i) : Nat) : Int)
theorem FindR.here {ls : List SH} {ts : List TH} {i : Nat} {t : TH} (h : ts[i]? = some t) : FindR ls ts ((1 + sumT (cvt ls) ((ts.map (·.t)).take i) : Nat) : Int) (i : Int) :=
  .inr ⟨i, t, rfl, h, find_at (cvt ls) (ts.map (·.t)) 1 i t.t (by rw [List.getElem?_map, h]; rfl), rfl⟩
theorem FindR.not {ls : List SH} {ts : List TH} {a : Int} (h : ∀ j, j < ts.length → a ≠ ((1 + sumT (cvt ls) ((ts.map (·.t)).take j) : Nat) : Int)) : FindR ls ts a (-1) := by
  refine .inl ⟨rfl, ?_⟩
  cases hf : findT (cvt ls) (ts.map (·.t)) 1 a with
  | none => rfl
  | some t =>
    obtain ⟨i, h1, h2⟩ := find_ix _ _ _ _ _ hf
    have h3 := (List.getElem?_eq_some_iff.1 h1).1
    rw [List.length_map] at h3
    exact absurd h2 (h i h3)
set_option maxHeartbeats 8000000 in
set_option maxRecDepth 100000 in
theorem rfind_calls (h : RM w base Q K g most ls ts mv shV thV) (hf : RF most ls ts) (a : Int) :
    Calls Try.prog 42 #[.pointer (some ⟨g, 0, none⟩), .int .i64 a] w fun e w' => ∃ k, e = .returned (.int .i64 k) ∧ FindR ls ts a k ∧ Below w.heap.size w w' := by
  have HM := Aside0.mk h
  have HF := Aside0.mk hf
  have HB := Aside0.mk (Below.refl w.heap.size w)
  obtain ⟨A, c, hV⟩ := h.thL
  subst hV
  have hb1 := hf.bnd.1
  have hb2 := hf.bnd.2
  clear h hf
  go_enter Try.func42, Try.ntmps42
  go_wp2_with fail
  (try go_frame)
  go_loopg [5, 6] (ts.length) (fun k v3 v4 wr => ∃ i : Nat, i + k = ts.length ∧ v4 = .int .i64 (i : Int) ∧ v3 = .int .i64 ((1 + sumT (cvt ls) ((ts.map (·.t)).take i) : Nat) : Int) ∧ Aside0 (∀ j, j < i → a ≠ ((1 + sumT (cvt ls) ((ts.map (·.t)).take j) : Nat) : Int)) ∧ Aside0 (Below w.heap.size w wr))
  case atStart => exact ⟨0, by omega, rfl, by simp [sumT], ⟨fun j hj => by omega⟩, HB⟩
  case round =>
    obtain ⟨i, hik, rfl, rfl, HN, HR⟩ := hrel
    have c2 := (HM.out.below HR.out).c2
    by_cases hlt : i < ts.length
    · obtain ⟨t, ht⟩ : ∃ t, ts[i]? = some t := ⟨_, List.getElem?_eq_getElem hlt⟩
      obtain ⟨ok, hs, hr⟩ := HF.out.at_ ht
      obtain ⟨ad, c', e, y0, y1⟩ := (HM.out.below HR.out).thing ht
      injection e with e1 e2 e3
      subst e1; subst e3
      have H44 : Aside0 (∀ wx, Below w.heap.size w wx → Calls Try.prog 44 #[.pointer (some ⟨g, 0, none⟩), .agg #[.int .i64 (t.t.s : Int), .slice (some ⟨t.b, 0, none⟩) t.t.xs.length t.t.xs.length]] wx fun e w' => e = .returned (.int .i64 (tsz (cvt ls) t.t : Int)) ∧ Below wx.heap.size wx w') := ⟨fun wx hb => rtsz_calls (HM.out.below hb) HF.out ok _ _⟩
      have HS := Aside0.mk hs
      have HT := Aside0.mk ht
      have hH := FindR.here (ls := ls) ht
      have q1 : (i : Int) < (ts.length : Int) := by omega
      have q2 : (0 : Int) ≤ (i : Int) := by omega
      have q3 : ((1 + sumT (cvt ls) ((ts.map (·.t)).take i) : Nat) : Int) + (tsz (cvt ls) t.t : Int) ≤ 70000 := by omega
      have q4 : (0 : Int) ≤ ((1 + sumT (cvt ls) ((ts.map (·.t)).take i) : Nat) : Int) := by omega
      have q5 : (0 : Int) ≤ (tsz (cvt ls) t.t : Int) := by omega
      have q6 : (ts.length : Int) ≤ 70000 := by have := HF.out.few; omega
      clear ok hs hr ht e2
      generalize hS : 1 + sumT (cvt ls) ((ts.map (·.t)).take i) = S at *
      generalize hz : tsz (cvt ls) t.t = z at *
      generalize t.t.xs.length = n at *
      generalize t.t.s = s at *
      by_cases ha : a = (S : Int)
      · subst ha
        have HH := Aside0.mk hH
        clear hH
        go_wp2_with fail
        (try go_ret)
        exact ⟨_, rfl, HH.out, HR.out⟩
      · have hc : ((S : Int) == a) = false := by simp; omega
        have HN2 : Aside0 (∀ j, j < i + 1 → a ≠ ((1 + sumT (cvt ls) ((ts.map (·.t)).take j) : Nat) : Int)) := ⟨fun j hj => by
          by_cases hji : j = i
          · subst hji; rw [hS]; exact ha
          · exact HN.out j (by omega)⟩
        clear ha hH
        go_wp2_with (first | (go_at_call 44; (with_reducible refine (H44.out _ HR.out).mono ?_); rintro e w5 ⟨rfl, hb5⟩; have HR5 := Aside0.mk (bel_then HR.out hb5); clear hb5))
        go_roundg (ts.length - (i + 1))
        case measure => omega
        case rel => exact ⟨i + 1, by omega, by go_num, by rw [HS.out, ← Nat.add_assoc, hS]; go_num, HN2, HR5⟩
    · have hge : ts.length ≤ i := by omega
      go_wp2_with fail
      (try go_ret)
      exact ⟨_, rfl, FindR.not (fun j hj => HN.out j (by omega)), HR.out⟩
theorem sum_mono (shs : List S65) {T : List Thg} {i j : Nat} (h : i < j) (hj : j ≤ T.length) : sumT shs (T.take i) < sumT shs (T.take j) := by
  obtain ⟨d, rfl⟩ : ∃ d, j = i + 1 + d := ⟨j - (i + 1), by omega⟩
  have h1 := sum_take_succ shs (T := T) (i := i) (t := T[i]'(by omega)) (List.getElem?_eq_getElem (by omega))
  have h2 := sum_take shs (T.take (i + 1 + d)) (i + 1)
  rw [List.take_take, Nat.min_eq_left (by omega)] at h2
  have h3 := tsz_pos shs (T[i]'(by omega))
  omega
theorem FindR.uniq {ls : List SH} {ts : List TH} {a k k' : Int} (h : FindR ls ts a k) (h' : FindR ls ts a k') : k = k' := by
  obtain ⟨rfl, hn⟩ | ⟨i, t, rfl, ht, hn, ha⟩ := h
  · obtain ⟨rfl, hn'⟩ | ⟨i', t', rfl, ht', hn', ha'⟩ := h'
    · rfl
    · rw [hn] at hn'; cases hn'
  · obtain ⟨rfl, hn'⟩ | ⟨i', t', rfl, ht', hn', ha'⟩ := h'
    · rw [hn] at hn'; cases hn'
    · have e1 := (List.getElem?_eq_some_iff.1 ht).1
      have e2 := (List.getElem?_eq_some_iff.1 ht').1
      rcases Nat.lt_trichotomy i i' with h | h | h
      · have := sum_mono (cvt ls) (T := ts.map (·.t)) h (by rw [List.length_map]; omega)
        omega
      · rw [h]
      · have := sum_mono (cvt ls) (T := ts.map (·.t)) h (by rw [List.length_map]; omega)
        omega
theorem FindR.ex (ls : List SH) (ts : List TH) (a : Int) : ∃ k, FindR ls ts a k := by
  cases hf : findT (cvt ls) (ts.map (·.t)) 1 a with
  | none => exact ⟨-1, .inl ⟨rfl, hf⟩⟩
  | some t =>
    obtain ⟨i, h1, h2⟩ := find_ix _ _ _ _ _ hf
    rw [List.getElem?_map] at h1
    cases h3 : ts[i]? with
    | none => rw [h3] at h1; cases h1
    | some u => subst h2; exact ⟨_, FindR.here h3⟩
theorem rfind_at (h : RM w base Q K g most ls ts mv shV thV) (hf : RF most ls ts) {a k : Int} (hk : FindR ls ts a k) :
    Calls Try.prog 42 #[.pointer (some ⟨g, 0, none⟩), .int .i64 a] w fun e w' => e = .returned (.int .i64 k) ∧ Below w.heap.size w w' :=
  (rfind_calls h hf a).mono fun e w' ⟨k', he, h1, h2⟩ => ⟨by rw [he, h1.uniq hk], h2⟩
set_option maxHeartbeats 8000000 in
set_option maxRecDepth 100000 in
theorem rget_calls (h : RM w base Q K g most ls ts mv shV thV) (hf : RF most ls ts) (a i : Int) :
    Calls Try.prog 33 #[.pointer (some ⟨g, 0, none⟩), .int .i64 a, .int .i64 i] w fun e w' => e = .returned (.int .i64 (getF (cvt ls) (ts.map (·.t)) a i)) ∧ Below w.heap.size w w' := by
  obtain ⟨k, hk⟩ := FindR.ex ls ts a
  have H42 := Aside0.mk (rfind_at h hf hk)
  have HM := Aside0.mk h
  obtain ⟨A, c, hV⟩ := h.thL
  subst hV
  clear h hf
  obtain ⟨rfl, hn⟩ | ⟨j, t, rfl, ht, hn, ha⟩ := hk
  · unfold getF
    rw [hn]
    clear hn
    go_enter Try.func33, Try.ntmps33
    go_wp2_with (first | (go_at_call 42; (with_reducible refine (H42.out).mono ?_); rintro e w5 ⟨rfl, hb5⟩; have HB := Aside0.mk hb5; clear hb5))
    (try go_ret)
    exact ⟨rfl, HB.out⟩
  · unfold getF
    rw [hn]
    have hj := (List.getElem?_eq_some_iff.1 ht).1
    have q1 : (j : Int) < (ts.length : Int) := by omega
    have q2 : decide ((j : Int) < 0) = false := by simp
    have HT := Aside0.mk ht
    clear hn ht ha
    by_cases h1 : i < 0
    · dsimp only
      rw [if_pos h1]
      go_enter Try.func33, Try.ntmps33
      go_wp2_with (first | (go_at_call 42; (with_reducible refine (H42.out).mono ?_); rintro e w5 ⟨rfl, hb5⟩; have HB := Aside0.mk hb5; clear hb5))
      (try go_ret)
      exact ⟨rfl, HB.out⟩
    dsimp only
    rw [if_neg h1]
    obtain ⟨n, rfl⟩ : ∃ n : Nat, i = n := ⟨i.toNat, by omega⟩
    rw [Int.toNat_natCast]
    have h1' : decide ((n : Int) < 0) = false := by simp
    clear h1
    have HC : Aside0 (∀ w5, Below w.heap.size w w5 → w5.cell? ⟨g, 2, none⟩ = some (.slice A ts.length c) ∧ ∃ ad, A = some ad ∧ w5.cell? (ad.add (j * 2)) = some (.int .i64 (t.t.s : Int)) ∧ w5.cell? ⟨(ad.add (j * 2)).block, (ad.add (j * 2)).off + 1, none⟩ = some (.slice (some ⟨t.b, 0, none⟩) t.t.xs.length t.t.xs.length) ∧ (n < t.t.xs.length → w5.cell? ⟨t.b, n, none⟩ = some (.int .i64 (t.t.xs.getD n 0)))) := ⟨fun w5 hb => by
      have hM := HM.out.below hb
      obtain ⟨ad, c', e, y0, y1⟩ := hM.thing HT.out
      injection e with e1 e2 e3
      exact ⟨hM.c2, ad, e1, y0, y1, fun hl => ((hM.wds t (List.mem_of_getElem? HT.out)).1).cell (wC_at hl)⟩⟩
    by_cases h2 : n < t.t.xs.length
    · have q3 : (n : Int) < (t.t.xs.length : Int) := by omega
      have h2' : decide (t.t.xs.length ≤ n) = false := by simp; omega
      generalize t.t.xs.getD n 0 = vv at *
      go_enter Try.func33, Try.ntmps33
      go_wp2_with (first | (go_at_call 42; (with_reducible refine (H42.out).mono ?_); rintro e w5 ⟨rfl, hb5⟩; have HB := Aside0.mk hb5; obtain ⟨c2, ad, rfl, y0, y1, y2⟩ := HC.out _ hb5; have y3 := y2 h2; clear hb5 y2))
      (try go_ret)
      exact ⟨rfl, HB.out⟩
    · have h2' : decide (t.t.xs.length ≤ n) = true := by simp; omega
      have hd : t.t.xs.getD n 0 = 0 := by rw [List.getD_eq_getElem?_getD, List.getElem?_eq_none (by omega)]; rfl
      rw [hd]
      clear h2
      go_enter Try.func33, Try.ntmps33
      go_wp2_with (first | (go_at_call 42; (with_reducible refine (H42.out).mono ?_); rintro e w5 ⟨rfl, hb5⟩; have HB := Aside0.mk hb5; obtain ⟨c2, ad, rfl, y0, y1, y2⟩ := HC.out _ hb5; clear hb5 y2))
      (try go_ret)
      exact ⟨rfl, HB.out⟩
set_option maxHeartbeats 8000000 in
set_option maxRecDepth 100000 in
theorem rref0_calls (h : RM0 w base Q K g most ls mv shV thV) (hf : RF most ls ts) {t : Thg} (ht : okT (cvt ls) t) (A : Option Addr) (c : Nat) {i : Nat} (hi : i < t.xs.length) :
    Calls Try.prog 45 #[.pointer (some ⟨g, 0, none⟩), .agg #[.int .i64 (t.s : Int), .slice A t.xs.length c], .int .i64 (i : Int)] w fun e w' => e = .returned (.bool (isR (cvt ls) t i)) ∧ Below w.heap.size w w' := by
  have HB := Aside0.mk (below_alloc (Below.refl w.heap.size w) (.cells #[.int .i64 (t.s : Int), .slice A t.xs.length c] 76))
  have hsl := ht.1
  rw [cv_len] at hsl
  obtain ⟨l, hl⟩ : ∃ l, ls[t.s]? = some l := ⟨_, List.getElem?_eq_getElem hsl⟩
  have hM := h.below HB.out
  obtain ⟨ad, c', e, y0, y1⟩ := hM.shape hl
  subst e
  have c1 := hM.c1
  have hk := hM.kin l (List.mem_of_getElem? hl)
  have hin : (t.s : Int) < (ls.length : Int) := by omega
  have harr := hf.arr l (List.mem_of_getElem? hl)
  have h2 := ht.2.1
  have hcv := cv_at hl
  unfold isR
  rw [hcv] at h2 ⊢
  rw [cv_f1] at h2 ⊢
  have HK := Aside0.mk hk
  have HL : Aside0 (∀ wx : World, Below (w.alloc (.cells #[.int .i64 (t.s : Int), .slice A t.xs.length c] 76)).heap.size (w.alloc (.cells #[.int .i64 (t.s : Int), .slice A t.xs.length c] 76)) wx → ∀ j, j < l.x.f0.length → ∃ ad0, l.A = some ad0 ∧ wx.cell? (ad0.add j) = some (.int .i64 (l.x.f0.getD j 0))) := ⟨fun wx hb j hj => by
    obtain ⟨ad0, e0, hc⟩ := Kd.at_int (Kd.F_now (Kd.F_step hk.1 (fun k ho hlk => hb.block k hlk))) (j : Int) (by omega) (by omega)
    rw [Int.toNat_natCast] at hc
    exact ⟨ad0, e0, by rw [hc]; unfold rd; rw [Int.toNat_natCast]⟩⟩
  have hsi : (0 : Int) ≤ (t.s : Int) := by omega
  have hii : (0 : Int) ≤ (i : Int) := by omega
  have cb : (w.alloc (.cells #[.int .i64 (t.s : Int), .slice A t.xs.length c] 76)).cell? ⟨w.heap.size, 0, none⟩ = some (.int .i64 (t.s : Int)) := (Blk.made w 76 _).cell rfl
  clear hk hM hl hcv hsl HK ht h hf
  generalize t.xs.length = n at *
  generalize t.s = s at *
  obtain ⟨⟨K0, b⟩, A0, cc⟩ := l
  dsimp only at *
  cases b with
  | true =>
    have hp := harr rfl
    obtain ⟨ad0, e0, hc⟩ := HL.out _ (below_drew (below_alloc (Below.refl _ _) (.cells #[.slice A0 K0.length cc, .bool true] 51))) 0 hp
    subst e0
    rw [show ad0.add 0 = ad0 from rfl] at hc
    have hp' : (0 : Int) < (K0.length : Int) := by omega
    have hE : (cvS ⟨K0, true⟩).f2 = (K0.getD 0 0 == 3) := rfl
    rw [if_pos rfl, hE]
    have HBB := Aside0.mk (bel_then HB.out (below_drew (below_alloc (Below.refl _ _) (.cells #[.slice (some ad0) K0.length cc, .bool true] 51))))
    clear harr h2 hE
    generalize hv : K0.getD 0 0 = v at *
    go_enter Try.func45, Try.ntmps45
    go_wp2_with fail
    go_region_held3 (fun w' => w'.cell? ⟨g, 1, none⟩ = some (.slice (some ad) ls.length c') ∧ w'.cell? ⟨w.heap.size, 0, none⟩ = some (.int .i64 s) ∧ w'.cell? (ad.add (s * 2)) = some (.slice (some ad0) K0.length cc) ∧ w'.cell? ⟨(ad.add (s * 2)).block, (ad.add (s * 2)).off + 1, none⟩ = some (.bool true)) (go_keep) (fail)
    clear c1 y0 y1 cb
    go_wp2_with fail
    (try go_ret)
    exact ⟨rfl, HBB.out⟩
  | false =>
    have hp : i < K0.length := by
      have := h2 rfl
      rw [cv_f0 rfl] at this
      dsimp only at this
      omega
    obtain ⟨ad0, e0, hc⟩ := HL.out _ (below_drew (below_alloc (Below.refl _ _) (.cells #[.slice A0 K0.length cc, .bool false] 51))) i hp
    subst e0
    have hp' : (i : Int) < (K0.length : Int) := by omega
    have hE : (cvS ⟨K0, false⟩).f0.getD i false = (K0.getD i 0 == 3) := by
      show (K0.map (· == 3)).getD i false = _
      rw [List.getD_eq_getElem?_getD, List.getD_eq_getElem?_getD, List.getElem?_map, List.getElem?_eq_getElem hp]
      rfl
    rw [if_neg (by decide), hE]
    have HBB := Aside0.mk (bel_then HB.out (below_drew (below_alloc (Below.refl _ _) (.cells #[.slice (some ad0) K0.length cc, .bool false] 51))))
    clear harr h2 hE
    generalize hv : K0.getD i 0 = v at *
    go_enter Try.func45, Try.ntmps45
    go_wp2_with fail
    go_region_held3 (fun w' => w'.cell? ⟨g, 1, none⟩ = some (.slice (some ad) ls.length c') ∧ w'.cell? ⟨w.heap.size, 0, none⟩ = some (.int .i64 s) ∧ w'.cell? (ad.add (s * 2)) = some (.slice (some ad0) K0.length cc) ∧ w'.cell? ⟨(ad.add (s * 2)).block, (ad.add (s * 2)).off + 1, none⟩ = some (.bool false)) (go_keep) (fail)
    clear c1 y0 y1 cb
    go_wp2_with fail
    (try go_ret)
    exact ⟨rfl, HBB.out⟩
theorem rref_calls (h : RM w base Q K g most ls ts mv shV thV) (hf : RF most ls ts) {t : Thg} (ht : okT (cvt ls) t) (A : Option Addr) (c : Nat) {i : Nat} (hi : i < t.xs.length) :
    Calls Try.prog 45 #[.pointer (some ⟨g, 0, none⟩), .agg #[.int .i64 (t.s : Int), .slice A t.xs.length c], .int .i64 (i : Int)] w fun e w' => e = .returned (.bool (isR (cvt ls) t i)) ∧ Below w.heap.size w w' := rref0_calls h.m0 hf ht A c hi
def movF : List Int → List Int → Int → Int
  | [], _, _ => 0
  | _, [], _ => 0
  | a :: os, b :: ns, x => if a = x then b else movF os ns x
theorem mov_at : ∀ (os ns : List Int) (x : Int) (i : Nat), os.length = ns.length → i < os.length → (∀ j, j < i → os.getD j 0 ≠ x) → os.getD i 0 = x → movF os ns x = ns.getD i 0
  | [], _, _, i, _, hi, _, _ => by simp at hi
  | a :: os, [], _, i, hl, hi, _, _ => by simp at hl
  | a :: os, b :: ns, x, 0, hl, hi, _, h => by
    have : a = x := h
    unfold movF; rw [if_pos this]; rfl
  | a :: os, b :: ns, x, i + 1, hl, hi, hn, h => by
    have h0 : a ≠ x := hn 0 (by omega)
    unfold movF; rw [if_neg h0]
    have := mov_at os ns x i (by simpa using hl) (by simpa using hi) (fun j hj => by have := hn (j + 1) (by omega); simpa using this) (by simpa using h)
    rw [this]; simp
theorem mov_none : ∀ (os ns : List Int) (x : Int), (∀ j, j < os.length → os.getD j 0 ≠ x) → movF os ns x = 0
  | [], _, _, _ => by simp [movF]
  | a :: os, [], _, _ => by simp [movF]
  | a :: os, b :: ns, x, hn => by
    have h0 : a ≠ x := hn 0 (by simp)
    unfold movF; rw [if_neg h0]
    exact mov_none os ns x (fun j hj => by have := hn (j + 1) (by simp; omega); simpa using this)
end
end Go.Proofs.Ytibhjlmffgabgaa.PAll
