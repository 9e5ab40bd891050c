import Derived.Test.YtibhjlmffgabgaaZLocal
namespace Go.Proofs.Ytibhjlmffgabgaa.PAll
open Go.RowKit Go.Proofs.YtibhjlmffgabgaaW.PrintWords Go.Proofs.YtibhjlmffgabgaaW.PrintLast Go.Proofs.YtibhjlmffgabgaaW.PrintMore
open Go.Proofs.Ytibhjlmffgabgaa.MapInt
set_option linter.unusedVariables false
set_option linter.unusedSimpArgs false
theorem sum_cons (shs : List S65) (t : Thg) (T : List Thg) : sumT shs (t :: T) = tsz shs t + sumT shs T := by simp [sumT]
theorem sum_app (shs : List S65) (T U : List Thg) : sumT shs (T ++ U) = sumT shs T + sumT shs U := by simp [sumT]
theorem sum_one (shs : List S65) (t : Thg) : sumT shs [t] = tsz shs t := by simp [sumT]
def keepT (shs : List S65) (S : Int → Bool) : List Thg → Nat → List Thg
  | [], _ => []
  | t :: T, b => if S (b : Int) = true then t :: keepT shs S T (b + tsz shs t) else keepT shs S T (b + tsz shs t)
def toF (shs : List S65) (S : Int → Bool) : List Thg → Nat → Nat → Int → Option Int
  | [], _, _, _ => none
  | t :: T, b, c, x => if S (b : Int) = true then (if x = (b : Int) then some (c : Int) else toF shs S T (b + tsz shs t) (c + tsz shs t) x) else toF shs S T (b + tsz shs t) c x
theorem keep_snoc (shs : List S65) (S : Int → Bool) (t : Thg) : ∀ (D : List Thg) (b : Nat), keepT shs S (D ++ [t]) b = keepT shs S D b ++ (if S ((b + sumT shs D : Nat) : Int) = true then [t] else [])
  | [], b => by simp only [List.nil_append, keepT, sumT, List.map_nil, List.sum_nil, Nat.add_zero]
  | u :: D, b => by
    have h := keep_snoc shs S t D (b + tsz shs u)
    rw [List.cons_append]
    unfold keepT
    rw [h, sum_cons, Nat.add_assoc]
    split <;> rfl
theorem keep_sub (shs : List S65) (S : Int → Bool) : ∀ (D : List Thg) (b : Nat), ∀ t ∈ keepT shs S D b, t ∈ D
  | [], b, t, h => by cases h
  | u :: D, b, t, h => by
    unfold keepT at h
    split at h
    · rcases List.mem_cons.1 h with e | e
      · simp [e]
      · simp [keep_sub shs S D _ t e]
    · simp [keep_sub shs S D _ t h]
theorem keep_sum (shs : List S65) (S : Int → Bool) : ∀ (D : List Thg) (b : Nat), sumT shs (keepT shs S D b) ≤ sumT shs D
  | [], b => Nat.le_refl _
  | u :: D, b => by
    have h := keep_sum shs S D (b + tsz shs u)
    unfold keepT
    split
    · rw [sum_cons, sum_cons]; omega
    · rw [sum_cons]; omega
theorem toF_range (shs : List S65) (S : Int → Bool) : ∀ (D : List Thg) (b c : Nat) (x y : Int), toF shs S D b c x = some y → (b : Int) ≤ x ∧ x < b + sumT shs D ∧ (c : Int) ≤ y ∧ y < c + sumT shs (keepT shs S D b)
  | [], b, c, x, y, h => by cases h
  | u :: D, b, c, x, y, h => by
    have hp := tsz_pos shs u
    unfold toF at h
    unfold keepT
    split at h
    · rename_i h1
      rw [if_pos h1, sum_cons, sum_cons]
      split at h
      · injection h with h; subst h; omega
      · have := toF_range shs S D _ _ x y h; omega
    · rename_i h1
      rw [if_neg h1, sum_cons]
      have := toF_range shs S D _ _ x y h; omega
theorem toF_snoc (shs : List S65) (S : Int → Bool) (t : Thg) : ∀ (D : List Thg) (b c : Nat) (x : Int), toF shs S (D ++ [t]) b c x = if S ((b + sumT shs D : Nat) : Int) = true then upd (toF shs S D b c) ((b + sumT shs D : Nat) : Int) ((c + sumT shs (keepT shs S D b) : Nat) : Int) x else toF shs S D b c x
  | [], b, c, x => by
    simp only [List.nil_append, toF, keepT, sumT, List.map_nil, List.sum_nil, Nat.add_zero, upd]
  | u :: D, b, c, x => by
    have hp := tsz_pos shs u
    rw [List.cons_append]
    unfold toF keepT
    rw [toF_snoc shs S t D, toF_snoc shs S t D]
    by_cases h1 : S (b : Int) = true
    · rw [if_pos h1, if_pos h1, sum_cons, ← Nat.add_assoc, sum_cons, ← Nat.add_assoc]
      by_cases h2 : x = (b : Int)
      · rw [if_pos h2]
        split
        · unfold upd; rw [if_neg (by omega)]; unfold toF; rw [if_pos h1, if_pos h2]
        · first | rfl | (rw [if_pos h2])
      · rw [if_neg h2]
        split
        · unfold upd; split
          · rfl
          · conv => rhs; unfold toF
            rw [if_pos h1, if_neg h2]
        · first | rfl | (rw [if_neg h2])
    · rw [if_neg h1, if_neg h1, sum_cons, ← Nat.add_assoc]
      split
      · unfold upd; split
        · rfl
        · conv => rhs; unfold toF
          rw [if_neg h1]
      · rfl
theorem toF_at (shs : List S65) (S : Int → Bool) (t : Thg) (R : List Thg) : ∀ (D : List Thg) (b c : Nat), S ((b + sumT shs D : Nat) : Int) = true → toF shs S (D ++ t :: R) b c ((b + sumT shs D : Nat) : Int) = some ((c + sumT shs (keepT shs S D b) : Nat) : Int)
  | [], b, c, h => by
    have e : b + sumT shs [] = b := rfl
    rw [e] at h ⊢
    rw [List.nil_append]
    unfold toF
    rw [if_pos h, if_pos rfl]
    rfl
  | u :: D, b, c, h => by
    have hp := tsz_pos shs u
    rw [sum_cons, ← Nat.add_assoc] at h
    have ih := toF_at shs S t R D (b + tsz shs u)
    rw [List.cons_append]
    unfold toF keepT
    rw [sum_cons, ← Nat.add_assoc]
    by_cases h1 : S (b : Int) = true
    · rw [if_pos h1, if_pos h1, if_neg (by omega), ih (c + tsz shs u) h, sum_cons, ← Nat.add_assoc]
    · rw [if_neg h1, if_neg h1, ih c h]
theorem toF_find (shs : List S65) (S : Int → Bool) : ∀ (D : List Thg) (b c : Nat) (y : Int), (∃ x, toF shs S D b c x = some y) ↔ (findT shs (keepT shs S D b) c y).isSome = true
  | [], b, c, y => by simp [toF, keepT, findT]
  | u :: D, b, c, y => by
    have hp := tsz_pos shs u
    unfold toF keepT
    by_cases h1 : S (b : Int) = true
    · simp only [if_pos h1]
      unfold findT
      by_cases h2 : (c : Int) = y
      · rw [if_pos h2]
        exact ⟨fun _ => rfl, fun _ => ⟨b, by rw [if_pos rfl, h2]⟩⟩
      · rw [if_neg h2, ← toF_find shs S D]
        constructor
        · rintro ⟨x, hx⟩
          split at hx
          · injection hx with hx; exact absurd hx h2
          · exact ⟨x, hx⟩
        · rintro ⟨x, hx⟩
          refine ⟨x, ?_⟩
          have := toF_range shs S D _ _ x y hx
          rw [if_neg (by omega)]
          exact hx
    · simp only [if_neg h1]
      exact toF_find shs S D _ _ y
def ref1 (F : Int → Option Int) (x : Int) : Int := (F x).getD 0
def mvN (shs : List S65) (F : Int → Option Int) (t : Thg) (k : Nat) : List Int := t.xs.mapIdx (fun i x => if i < k ∧ isR shs t i = true then ref1 F x else x)
def mvT (shs : List S65) (F : Int → Option Int) (t : Thg) : Thg := ⟨t.s, mvN shs F t t.xs.length⟩
theorem mvN_len (shs : List S65) (F : Int → Option Int) (t : Thg) (k : Nat) : (mvN shs F t k).length = t.xs.length := by unfold mvN; simp
theorem mvN_zero (shs : List S65) (F : Int → Option Int) (t : Thg) : mvN shs F t 0 = t.xs := by
  unfold mvN
  apply List.ext_getElem?
  intro i
  simp
theorem mvN_at (shs : List S65) (F : Int → Option Int) (t : Thg) (k i : Nat) (hi : i < t.xs.length) : (mvN shs F t k).getD i 0 = if i < k ∧ isR shs t i = true then ref1 F (t.xs.getD i 0) else t.xs.getD i 0 := by
  unfold mvN
  rw [List.getD_eq_getElem?_getD, List.getElem?_mapIdx, List.getD_eq_getElem?_getD, List.getElem?_eq_getElem hi]
  rfl
theorem mvN_skip (shs : List S65) (F : Int → Option Int) (t : Thg) (k : Nat) (hr : isR shs t k = false) : mvN shs F t (k + 1) = mvN shs F t k := by
  unfold mvN
  apply List.ext_getElem?
  intro i
  rw [List.getElem?_mapIdx, List.getElem?_mapIdx]
  cases e : t.xs[i]? with
  | none => rfl
  | some x =>
    simp only [Option.map_some]
    congr 1
    by_cases h : i = k
    · subst h; rw [hr]; simp
    · have : (i < k + 1) ↔ (i < k) := by omega
      simp only [this]
theorem mvN_step (shs : List S65) (F : Int → Option Int) (t : Thg) (k : Nat) (hk : k < t.xs.length) (hr : isR shs t k = true) : (mvN shs F t k).set k (ref1 F (t.xs.getD k 0)) = mvN shs F t (k + 1) := by
  apply List.ext_getElem?
  intro i
  rw [List.getElem?_set]
  by_cases h : k = i
  · subst h
    rw [if_pos rfl, if_pos (by rw [mvN_len]; exact hk)]
    unfold mvN
    rw [List.getElem?_mapIdx, List.getElem?_eq_getElem hk]
    simp only [Option.map_some]
    rw [if_pos ⟨by omega, hr⟩, List.getD_eq_getElem?_getD, List.getElem?_eq_getElem hk]
    rfl
  · rw [if_neg h]
    unfold mvN
    rw [List.getElem?_mapIdx, List.getElem?_mapIdx]
    cases e : t.xs[i]? with
    | none => rfl
    | some x =>
      simp only [Option.map_some]
      congr 1
      have : (i < k + 1) ↔ (i < k) := by omega
      simp only [this]
theorem mvT_len (shs : List S65) (F : Int → Option Int) (t : Thg) : (mvT shs F t).xs.length = t.xs.length := mvN_len _ _ _ _
theorem mvT_tsz (shs : List S65) (F : Int → Option Int) (t : Thg) : tsz shs (mvT shs F t) = tsz shs t := by unfold tsz; rw [mvT_len]; rfl
theorem mvT_sum (shs : List S65) (F : Int → Option Int) : ∀ T : List Thg, sumT shs (T.map (mvT shs F)) = sumT shs T
  | [] => rfl
  | t :: T => by rw [List.map_cons, sum_cons, sum_cons, mvT_tsz, mvT_sum]
theorem mvT_ok {shs : List S65} {F : Int → Option Int} {t : Thg} (h : okT shs t) : okT shs (mvT shs F t) := by
  unfold okT; rw [mvT_len]; exact h
theorem mvT_find (shs : List S65) (F : Int → Option Int) : ∀ (T : List Thg) (b : Nat) (a : Int), findT shs (T.map (mvT shs F)) b a = (findT shs T b a).map (mvT shs F)
  | [], b, a => rfl
  | t :: T, b, a => by
    rw [List.map_cons]
    unfold findT
    rw [mvT_tsz, mvT_find shs F T]
    split <;> rfl
theorem mvT_wrd {shs : List S65} {F : Int → Option Int} {t : Thg} (hF : ∀ x y, F x = some y → inR y) (h : ∀ x ∈ t.xs, inR x) : ∀ x ∈ (mvT shs F t).xs, inR x := by
  intro x hx
  obtain ⟨i, hi⟩ := List.getElem?_of_mem hx
  have hl : i < t.xs.length := by have := (List.getElem?_eq_some_iff.1 hi).1; rw [mvT_len] at this; exact this
  have h1 := mvN_at shs F t t.xs.length i hl
  have h2 : (mvN shs F t t.xs.length).getD i 0 = x := by
    rw [List.getD_eq_getElem?_getD]; show ((mvT shs F t).xs[i]?).getD 0 = x; rw [hi]; rfl
  rw [h2] at h1
  have h3 : inR (t.xs.getD i 0) := h _ (by rw [List.getD_eq_getElem?_getD, List.getElem?_eq_getElem hl]; exact List.getElem_mem _)
  rw [h1]
  split
  · unfold ref1
    cases e : F (t.xs.getD i 0) with
    | none => exact ⟨by decide, by decide⟩
    | some y => exact hF _ _ e
  · exact h3
def newF (shs : List S65) (S : Int → Bool) (T : List Thg) : Int → Option Int := toF shs S T 1 1
def clrT (shs : List S65) (S : Int → Bool) (T : List Thg) : List Thg := (keepT shs S T 1).map (mvT shs (newF shs S T))
def wsM (shs : List S65) (w0 : Int) (K : List Thg) (mid : List Int) (R : List Thg) (junk : List Int) : List Int := [w0] ++ K.flatMap (encT shs) ++ mid ++ R.flatMap (encT shs) ++ junk
theorem ws_put (shs : List S65) (pre R : List Int) (t : Thg) (xs : List Int) (k : Nat) (x : Int) (hl : xs.length = t.xs.length) (hk : k < t.xs.length) :
    (pre ++ encT shs ⟨t.s, xs⟩ ++ R).set (pre.length + hd shs t + k) x = pre ++ encT shs ⟨t.s, xs.set k x⟩ ++ R := by
  have h := enc_put shs ⟨t.s, xs⟩ k x (by show k < xs.length; omega)
  have e : (Thg.put ⟨t.s, xs⟩ (k : Int) x) = ⟨t.s, xs.set k x⟩ := by unfold Thg.put; rw [if_pos (by show _ ∧ (k : Int) < (xs.length : Int); omega), Int.toNat_natCast]
  rw [e] at h
  rw [h]
  have h2 : (encT shs ⟨t.s, xs⟩).length = hd shs t + t.xs.length := by rw [encT_len]; unfold tsz hd; dsimp only; split <;> omega
  rw [List.append_assoc, List.set_append_right _ _ (by omega), List.set_append_left _ _ (by omega), List.append_assoc]
  have h3 : pre.length + hd shs t + k - pre.length = hd shs ⟨t.s, xs⟩ + k := by have : hd shs ⟨t.s, xs⟩ = hd shs t := rfl; omega
  rw [h3]
theorem ws_get (shs : List S65) (pre R : List Int) (t : Thg) (xs : List Int) (k : Nat) (hl : xs.length = t.xs.length) (hk : k < t.xs.length) :
    (pre ++ encT shs ⟨t.s, xs⟩ ++ R).getD (pre.length + hd shs t + k) 0 = xs.getD k 0 := by
  have h := enc_x shs ⟨t.s, xs⟩ k (by show k < xs.length; omega)
  have hlt : hd shs t + k < (encT shs ⟨t.s, xs⟩).length := (List.getElem?_eq_some_iff.1 h).1
  rw [List.getD_eq_getElem?_getD, List.append_assoc, List.getElem?_append_right (by omega), List.getElem?_append_left (by omega), show pre.length + hd shs t + k - pre.length = hd shs t + k by omega]
  show ((encT shs ⟨t.s, xs⟩)[hd shs ⟨t.s, xs⟩ + k]?).getD 0 = _
  rw [h]; rfl
theorem ws_head (shs : List S65) (pre R : List Int) (t : Thg) : (pre ++ encT shs t ++ R).getD pre.length 0 = (t.s : Int) ∧ ((shOf shs t.s).f1 = true → (pre ++ encT shs t ++ R).getD (pre.length + 1) 0 = (t.xs.length : Int)) := by
  constructor
  · have h := enc_s shs t
    have hlt := (List.getElem?_eq_some_iff.1 h).1
    rw [List.getD_eq_getElem?_getD, List.append_assoc, List.getElem?_append_right (Nat.le_refl _), List.getElem?_append_left (by omega), Nat.sub_self, h]; rfl
  · intro hf
    have h := enc_n shs t hf
    have hlt := (List.getElem?_eq_some_iff.1 h).1
    rw [List.getD_eq_getElem?_getD, List.append_assoc, List.getElem?_append_right (by omega), List.getElem?_append_left (by omega), show pre.length + 1 - pre.length = 1 by omega, h]; rfl
theorem ws_copy (X mid e R : List Int) : (X ++ (mid ++ e) ++ R).take X.length ++ (e ++ (X ++ (mid ++ e) ++ R).drop (X.length + e.length)) = (X ++ e) ++ (mid ++ e).drop e.length ++ R := by
  have h1 : (X ++ (mid ++ e) ++ R).take X.length = X := by rw [List.append_assoc, List.take_left]
  have h2 : (X ++ (mid ++ e) ++ R).drop (X.length + e.length) = (mid ++ e).drop e.length ++ R := by
    rw [List.append_assoc, List.drop_append, List.drop_eq_nil_of_le (by omega), List.nil_append, show X.length + e.length - X.length = e.length by omega, List.drop_append, show e.length - (mid ++ e).length = 0 by simp]
    simp
  rw [h1, h2]
  simp [List.append_assoc]
theorem mid_len (mid e : List Int) : ((mid ++ e).drop e.length).length = mid.length := by simp
theorem sts_end {shs : List S65} {T : List Thg} {most : Nat} {sts : List Bool} (hl : sts.length = most + 1) (hs : sumT shs T ≤ most) (h : ∀ j : Nat, j < most + 1 → (sts.getD j false = true ↔ (findT shs T 1 (j : Int)).isSome = true)) : sts = [false] ++ T.flatMap (begT shs) ++ List.replicate (most - sumT shs T) false := by
  have hF : ([false] ++ T.flatMap (begT shs)).length = 1 + sumT shs T := by rw [List.length_append, begs_len]; rfl
  apply List.ext_getElem?
  intro j
  by_cases hj : j < most + 1
  · have h1 := h j hj
    have e1 : sts[j]? = some (findT shs T 1 (j : Int)).isSome := by
      rw [List.getD_eq_getElem?_getD, List.getElem?_eq_getElem (by omega)] at h1
      rw [List.getElem?_eq_getElem (by omega)]
      congr 1
      simp only [Option.getD_some] at h1
      cases hb : sts[j] with
      | true => rw [hb] at h1; exact (h1.1 rfl).symm
      | false =>
        rw [hb] at h1
        cases hc : (findT shs T 1 (j : Int)).isSome with
        | false => rfl
        | true => exact absurd (h1.2 hc) (by decide)
    rw [e1]
    by_cases h0 : 1 ≤ j
    · by_cases h2 : j < 1 + sumT shs T
      · have := find_beg (shs := shs) T [false] (List.replicate (most - sumT shs T) false) j (by simpa using h0) (by simpa using h2)
        rw [this]; rfl
      · rw [List.getElem?_append_right (by omega), hF, List.getElem?_replicate, if_pos (by omega)]
        cases h8 : findT shs T 1 (j : Int) with
        | none => rfl
        | some t => have := find_ge T _ _ t h8; have := tsz_pos shs t; omega
    · obtain rfl : j = 0 := by omega
      have h8 : findT shs T 1 ((0 : Nat) : Int) = none := by
        cases h8 : findT shs T 1 ((0 : Nat) : Int) with
        | none => rfl
        | some t => have := (find_ge T _ _ t h8).1; omega
      rw [h8]; rfl
  · rw [List.getElem?_eq_none (by omega), List.getElem?_eq_none (by rw [List.length_append, hF]; simp; omega)]
end Go.Proofs.Ytibhjlmffgabgaa.PAll
