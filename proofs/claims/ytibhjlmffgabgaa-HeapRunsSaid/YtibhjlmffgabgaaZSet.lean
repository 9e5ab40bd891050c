import Derived.Test.YtibhjlmffgabgaaZMeth2
namespace Go.Proofs.Ytibhjlmffgabgaa.PAll
open Go.RowKit Go.Proofs.YtibhjlmffgabgaaW.PrintWords Go.Proofs.YtibhjlmffgabgaaW.PrintLast Go.Proofs.YtibhjlmffgabgaaW.PrintMore
open Go.Proofs.Ytibhjlmffgabgaa.MapInt
set_option linter.unusedVariables false
set_option linter.unusedSimpArgs false
theorem oi2 : (Try.prog.info? 2).map (·.size) = some 1 := by kernel_rfl
theorem oi3 : (Try.prog.info? 3).map (·.size) = some 1 := by kernel_rfl
theorem oi4 : (Try.prog.info? 4).map (·.size) = some 1 := by kernel_rfl
def Thg.put (t : Thg) (i x : Int) : Thg := if 0 ≤ i ∧ i < (t.xs.length : Int) then ⟨t.s, t.xs.set i.toNat x⟩ else t
def setT (shs : List S65) : List Thg → Nat → Int → Int → Int → List Thg
  | [], _, _, _, _ => []
  | t :: T, b, a, i, x => if (b : Int) = a then t.put i x :: T else t :: setT shs T (b + tsz shs t) a i x
theorem put_s (t : Thg) (i x : Int) : (t.put i x).s = t.s := by unfold Thg.put; split <;> rfl
theorem put_len (t : Thg) (i x : Int) : (t.put i x).xs.length = t.xs.length := by unfold Thg.put; split <;> simp
theorem put_tsz (shs : List S65) (t : Thg) (i x : Int) : tsz shs (t.put i x) = tsz shs t := by unfold tsz; rw [put_s, put_len]
theorem set_none {shs : List S65} : ∀ (T : List Thg) (b : Nat) (a i x : Int), findT shs T b a = none → setT shs T b a i x = T
  | [], b, a, i, x, h => rfl
  | t :: T, b, a, i, x, h => by
    unfold findT at h
    unfold setT
    split at h
    · cases h
    · rename_i h1
      rw [if_neg h1, set_none T _ a i x h]
theorem set_out {shs : List S65} : ∀ (T : List Thg) (b : Nat) (a i x : Int) (t : Thg), findT shs T b a = some t → (i < 0 ∨ (t.xs.length : Int) ≤ i) → setT shs T b a i x = T
  | [], b, a, i, x, t, h, _ => by cases h
  | u :: T, b, a, i, x, t, h, hi => by
    unfold findT at h
    unfold setT
    split at h
    · rename_i h1
      injection h with h; subst h
      rw [if_pos h1]
      congr 1
      unfold Thg.put
      rw [if_neg (by omega)]
    · rename_i h1
      rw [if_neg h1, set_out T _ a i x t h hi]
theorem enc_put (shs : List S65) (t : Thg) (i : Nat) (x : Int) (hi : i < t.xs.length) : encT shs (t.put i x) = (encT shs t).set (hd shs t + i) x := by
  have e : t.put i x = ⟨t.s, t.xs.set i x⟩ := by unfold Thg.put; rw [if_pos (by omega), Int.toNat_natCast]
  rw [e]
  unfold encT hd
  dsimp only
  split
  · rw [List.set_append_right _ _ (by simp)]
    simp
  · rw [List.set_append_right _ _ (by simp)]
    simp
theorem set_flat {shs : List S65} : ∀ (T : List Thg) (pre post : List Int) (a i : Nat) (x : Int) (t : Thg), findT shs T pre.length a = some t → i < t.xs.length →
    pre ++ (setT shs T pre.length a i x).flatMap (encT shs) ++ post = (pre ++ T.flatMap (encT shs) ++ post).set (a + hd shs t + i) x
  | [], pre, post, a, i, x, t, h, _ => by cases h
  | u :: T, pre, post, a, i, x, t, h, hi => by
    unfold findT at h
    unfold setT
    have hh : hd shs u + u.xs.length = (encT shs u).length := by rw [encT_len]; unfold tsz hd; split <;> rfl
    split at h
    · rename_i h1
      injection h with h; subst h
      rw [if_pos h1, List.flatMap_cons, List.flatMap_cons, enc_put shs u i x hi]
      have h2 : pre.length = a := by omega
      subst h2
      simp only [List.append_assoc]
      rw [List.set_append_right _ _ (by omega), List.set_append_left _ _ (by omega)]
      congr 3
      omega
    · rename_i h1
      rw [if_neg h1, List.flatMap_cons, List.flatMap_cons]
      have := set_flat T (pre ++ encT shs u) post a i x t (by rw [List.length_append, encT_len]; exact h) hi
      rw [List.length_append, encT_len] at this
      simp only [List.append_assoc] at this ⊢
      exact this
theorem set_tsz {shs : List S65} : ∀ (T : List Thg) (b : Nat) (a i x : Int), (setT shs T b a i x).map (tsz shs) = T.map (tsz shs)
  | [], b, a, i, x => rfl
  | t :: T, b, a, i, x => by
    unfold setT
    split
    · rw [List.map_cons, List.map_cons, put_tsz]
    · rw [List.map_cons, List.map_cons, set_tsz T]
theorem set_sum {shs : List S65} (T : List Thg) (b : Nat) (a i x : Int) : sumT shs (setT shs T b a i x) = sumT shs T := by unfold sumT; rw [set_tsz]
theorem begs_map (shs : List S65) : ∀ T : List Thg, T.flatMap (begT shs) = (T.map (tsz shs)).flatMap (fun n => true :: List.replicate (n - 1) false)
  | [] => rfl
  | t :: T => by rw [List.flatMap_cons, List.map_cons, List.flatMap_cons, begs_map shs T]; rfl
theorem set_begs {shs : List S65} (T : List Thg) (b : Nat) (a i x : Int) : (setT shs T b a i x).flatMap (begT shs) = T.flatMap (begT shs) := by rw [begs_map, begs_map, set_tsz]
theorem set_ok {shs : List S65} : ∀ (T : List Thg) (b : Nat) (a i x : Int), (∀ t ∈ T, okT shs t) → ∀ t ∈ setT shs T b a i x, okT shs t
  | [], b, a, i, x, h, t, ht => by cases ht
  | u :: T, b, a, i, x, h, t, ht => by
    unfold setT at ht
    have hu := h u (by simp)
    split at ht
    · rcases List.mem_cons.1 ht with e | e
      · subst e
        unfold okT
        rw [put_s, put_len]
        exact hu
      · exact h t (by simp [e])
    · rcases List.mem_cons.1 ht with e | e
      · subst e; exact hu
      · exact set_ok T _ a i x (fun y hy => h y (by simp [hy])) t e
theorem put_wrd {t : Thg} {i x : Int} (hx : inR x) (h : ∀ y ∈ t.xs, inR y) : ∀ y ∈ (t.put i x).xs, inR y := by
  unfold Thg.put
  split
  · intro y hy
    rcases List.mem_or_eq_of_mem_set hy with e | e
    · exact h y e
    · subst e; exact hx
  · exact h
theorem set_wrd {shs : List S65} : ∀ (T : List Thg) (b : Nat) (a i x : Int), inR x → (∀ t ∈ T, ∀ y ∈ t.xs, inR y) → ∀ t ∈ setT shs T b a i x, ∀ y ∈ t.xs, inR y
  | [], b, a, i, x, hx, h, t, ht => by cases ht
  | u :: T, b, a, i, x, hx, h, t, ht => by
    unfold setT at ht
    split at ht
    · rcases List.mem_cons.1 ht with e | e
      · subst e; exact put_wrd hx (h u (by simp))
      · exact h t (by simp [e])
    · rcases List.mem_cons.1 ht with e | e
      · subst e; exact h t (by simp)
      · exact set_wrd T _ a i x hx (fun y hy => h y (by simp [hy])) t e
set_option maxHeartbeats 8000000 in
set_option maxRecDepth 100000 in
theorem set_calls {w : World} {base g most : Nat} {P : Nat → Prop} {shs : List S65} {T : List Thg} {mv : Int} (h : AS w base P g most shs T mv) (a i x : Int) (hx : inR x) :
    Calls Try.prog 16 #[.pointer (some ⟨g, 0, none⟩), .int .i64 a, .int .i64 i, .int .i64 x] w fun e w' => e = .returned (.tuple #[]) ∧ AS w' base P g most shs (setT shs T 1 a i x) mv ∧ Chg P w w' := by
  have hp := place_calls h a i
  by_cases h0 : placeF shs T a i = 0
  · have hs : setT shs T 1 a i x = T := by
      cases hf : findT shs T 1 a with
      | none => exact set_none T 1 a i x hf
      | some t =>
        refine set_out T 1 a i x t hf ?_
        unfold placeF at h0
        rw [hf] at h0
        dsimp only at h0
        split at h0
        · rename_i h3; exact h3
        · have := (find_ge T _ _ t hf).1; omega
    rw [h0] at hp
    rw [hs]
    have HP := Aside0.mk hp
    have HS := Aside0.mk h
    clear hp h hs h0
    go_enter Try.func16, Try.ntmps16
    go_wp2_with (first | (go_at_call 39; (with_reducible refine (HP.out).mono ?_); rintro e w1 ⟨rfl, hb⟩; have HB := Aside0.mk hb; clear hb))
    exact bodyPost_end (results_none rfl _ _ _) rfl ⟨rfl, HS.out.below HB.out, Chg.of_below HB.out⟩
  · obtain ⟨gw, gs, shV, w0, junk, hM⟩ := h.mem
    have hroom := h.room
    obtain ⟨n, hn, hn1, hn2, hv⟩ : ∃ n : Nat, placeF shs T a i = n ∧ 1 ≤ n ∧ n < most + 1 ∧ [w0] ++ (setT shs T 1 a i x).flatMap (encT shs) ++ junk = ([w0] ++ T.flatMap (encT shs) ++ junk).set n x := by
      unfold placeF at *
      cases hf : findT shs T 1 a with
      | none => rw [hf] at h0; exact absurd rfl h0
      | some t =>
        rw [hf] at h0
        dsimp only at h0 ⊢
        obtain ⟨m, rfl, k1, k2, k3, k4⟩ := ws_thing (w0 := w0) (junk := junk) hf
        split at h0
        · exact absurd rfl h0
        · rename_i hi
          obtain ⟨q, rfl⟩ : ∃ q : Nat, i = q := ⟨i.toNat, by omega⟩
          have hs : tsz shs t = hd shs t + t.xs.length := by unfold tsz hd; split <;> rfl
          rw [if_neg hi]
          refine ⟨m + hd shs t + q, by omega, by omega, by omega, ?_⟩
          exact set_flat T [w0] junk m q x t hf (by omega)
    rw [hn] at hp
    have HP := Aside0.mk hp
    have hn3 : (n : Int) < ((most + 1 : Nat) : Int) := by omega
    have hn4 : 0 < (n : Int) := by omega
    have HM := Aside0.mk hM
    have hl : ([w0] ++ T.flatMap (encT shs) ++ junk).length = most + 1 := hM.lw
    have HF : Aside0 (∀ w2, AM w2 base P g gw gs (most + 1) (([w0] ++ T.flatMap (encT shs) ++ junk).set n x) ([false] ++ T.flatMap (begT shs) ++ List.replicate (most - sumT shs T) false) (1 + sumT shs T : Nat) mv shV shs → AS w2 base P g most shs (setT shs T 1 a i x) mv) := ⟨fun w2 h2 => by
      refine ⟨h.bnd, by rw [set_sum]; exact h.room, set_ok T _ _ _ _ h.things, h.shl, set_wrd T _ _ _ _ hx h.wrd, gw, gs, shV, w0, junk, ?_⟩
      rw [hv, set_begs, set_sum]
      exact h2⟩
    clear hp hM hv h hroom h0 hn
    generalize setT shs T 1 a i x = T2 at *
    generalize [w0] ++ T.flatMap (encT shs) ++ junk = ws at *
    generalize [false] ++ T.flatMap (begT shs) ++ List.replicate (most - sumT shs T) false = sts at *
    generalize (1 + sumT shs T) = nx at *
    generalize hmm : most + 1 = m at *
    go_enter Try.func16, Try.ntmps16
    go_wp2_with (first | (go_at_call 39; (with_reducible refine (HP.out).mono ?_); rintro e w1 ⟨rfl, hb⟩; have HB := Aside0.mk hb; have HM2 := Aside0.mk (HM.out.below hb); have c0 := HM2.out.c0; clear hb) | ((with_reducible refine gate_store (t := 2) (p := 21) (v := .tmp 20) rfl ?_); (refine cell_store rfl 2 (.tmp 21) (.tmp 20) rfl oi2 (q := n) (v := .int .i64 x) rfl rfl rfl HM2.out.wds (by rw [wC_size, hl]; exact hn2) ?_; intro w3 hb3 hg3 hz3; rw [wC_set] at hb3; have HM3 := Aside0.mk (HM2.out.putw hb3 hg3 (by rw [List.length_set]; exact hl)); have HCH := Aside0.mk (Chg.trans (P := P) (Chg.of_below HB.out) (Chg.of_grown (P := P) hg3 (.inl HM2.out.pw)) (fun k hk => .inl hk)); clear hb3 hg3 hz3)))
    exact bodyPost_end (results_none rfl _ _ _) rfl ⟨rfl, HF.out _ HM3.out, HCH.out⟩
end Go.Proofs.Ytibhjlmffgabgaa.PAll
