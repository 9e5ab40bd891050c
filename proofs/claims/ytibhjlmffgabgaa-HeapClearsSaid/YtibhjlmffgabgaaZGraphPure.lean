import Derived.Test.YtibhjlmffgabgaaZGState
import Derived.Test.YtibhjlmffgabgaaZDo
import Derived.Test.YtibhjlmffgabgaaZChainPure
namespace Go.Proofs.Ytibhjlmffgabgaa.PAll
open Go.Proofs.Ytibhjlmffgabgaa.MapInt
set_option linter.unusedVariables false
set_option linter.unusedSimpArgs false
theorem toF_at_find (shs : List S65) (S : Int → Bool) : ∀ (D : List Thg) (b c : Nat) (x y : Int), toF shs S D b c x = some y → findT shs (keepT shs S D b) c y = findT shs D b x
  | [], b, c, x, y, h => by cases h
  | u :: D, b, c, x, y, h => by
    have hp := tsz_pos shs u
    rw [toF_cons] at h
    rw [keepT_cons]
    have e0 : findT shs (u :: D) b x = if (b : Int) = x then some u else findT shs D (b + tsz shs u) x := rfl
    rw [e0]
    split at h
    · rename_i h1
      rw [if_pos h1]
      have e1 : findT shs (u :: keepT shs S D (b + tsz shs u)) c y = if (c : Int) = y then some u else findT shs (keepT shs S D (b + tsz shs u)) (c + tsz shs u) y := rfl
      rw [e1]
      split at h
      · rename_i h2
        injection h with h
        rw [if_pos h, if_pos h2.symm]
      · rename_i h2
        have hr := toF_range shs S D _ _ x y h
        rw [if_neg (by omega), if_neg (fun e => h2 e.symm)]
        exact toF_at_find shs S D _ _ x y h
    · rename_i h1
      rw [if_neg h1]
      have hr := toF_range shs S D _ _ x y h
      rw [if_neg (by omega)]
      exact toF_at_find shs S D _ _ x y h
theorem toF_inj (shs : List S65) (S : Int → Bool) : ∀ (D : List Thg) (b c : Nat) (x x2 y : Int), toF shs S D b c x = some y → toF shs S D b c x2 = some y → x = x2
  | [], b, c, x, x2, y, h, _ => by cases h
  | u :: D, b, c, x, x2, y, h, k => by
    have hp := tsz_pos shs u
    rw [toF_cons] at h k
    by_cases h1 : S (b : Int) = true
    · rw [if_pos h1] at h k
      by_cases h2 : x = (b : Int)
      · rw [if_pos h2] at h
        by_cases h3 : x2 = (b : Int)
        · rw [h2, h3]
        · rw [if_neg h3] at k
          have hr := toF_range shs S D _ _ _ y k
          injection h with h; omega
      · rw [if_neg h2] at h
        have hr := toF_range shs S D _ _ _ y h
        by_cases h3 : x2 = (b : Int)
        · rw [if_pos h3] at k
          injection k with k; omega
        · rw [if_neg h3] at k
          exact toF_inj shs S D _ _ x x2 y h k
    · rw [if_neg h1] at h k
      exact toF_inj shs S D _ _ x x2 y h k
section
variable {shs : List S65} {T : List Thg} {roots : List Int}
@[reducible] noncomputable def sS (shs : List S65) (T : List Thg) (roots : List Int) : Int → Bool := rchB shs T roots
@[reducible] noncomputable def sF (shs : List S65) (T : List Thg) (roots : List Int) : Int → Option Int := newF shs (rchB shs T roots) T
@[reducible] noncomputable def sT (shs : List S65) (T : List Thg) (roots : List Int) : List Thg := clrT shs (rchB shs T roots) T
theorem sF_some {x : Int} (h : Rch shs T roots x) : ∃ y t, sF shs T roots x = some y ∧ findT shs T 1 x = some t ∧ findT shs (sT shs T roots) 1 y = some (mvT shs (sF shs T roots) t) := by
  have h1 : (newF shs (rchB shs T roots) T x).isSome = true := by
    unfold newF
    rw [toF_isSome, h.found, (rchB_iff _ _ _ _).2 h]; rfl
  obtain ⟨y, hy⟩ := Option.isSome_iff_exists.1 h1
  obtain ⟨t, ht⟩ := Option.isSome_iff_exists.1 h.found
  refine ⟨y, t, hy, ht, ?_⟩
  show findT shs ((keepT shs (rchB shs T roots) T 1).map (mvT shs (newF shs (rchB shs T roots) T))) 1 y = _
  rw [mvT_find, toF_at_find shs _ T 1 1 x y hy, ht]; rfl
theorem sF_rch {x y : Int} (h : sF shs T roots x = some y) : Rch shs T roots x := by
  have h1 : (sF shs T roots x).isSome = true := by rw [h]; rfl
  unfold sF newF at h1
  rw [toF_isSome] at h1
  simp only [Bool.and_eq_true] at h1
  exact (rchB_iff _ _ _ _).1 h1.2
theorem sF_none {x : Int} (h : isT shs T x = false) : ref1 (sF shs T roots) x = 0 := by
  unfold ref1
  cases e : sF shs T roots x with
  | none => rfl
  | some y => have := (sF_rch e).found; unfold isT at h; rw [this] at h; cases h
theorem sT_zero : isT shs (sT shs T roots) 0 = false := by
  unfold isT
  cases h : findT shs (sT shs T roots) 1 0 with
  | none => rfl
  | some t => have := (find_ge _ _ _ _ h).1; omega
theorem is_zero : isT shs T 0 = false := by
  unfold isT
  cases h : findT shs T 1 0 with
  | none => rfl
  | some t => have := (find_ge _ _ _ _ h).1; omega
theorem ref_some {F : Int → Option Int} {x y : Int} (h : F x = some y) : ref1 F x = y := by unfold ref1; rw [h]; rfl
noncomputable def mO (shs : List S65) (T : List Thg) (roots : List Int) (O : List Int) : List Int := O.map (ref1 (sF shs T roots))
theorem mO_mem {O : List Int} (hO : ∀ x ∈ O, Rch shs T roots x) {x : Int} (hx : Rch shs T roots x) : ref1 (sF shs T roots) x ∈ mO shs T roots O ↔ x ∈ O := by
  unfold mO
  rw [List.mem_map]
  constructor
  · rintro ⟨z, hz, e⟩
    obtain ⟨y1, t1, h1, _⟩ := sF_some (hO z hz)
    obtain ⟨y2, t2, h2, _⟩ := sF_some hx
    rw [ref_some h1, ref_some h2] at e
    subst e
    rw [← toF_inj shs _ T 1 1 z x y1 h1 h2]; exact hz
  · intro h; exact ⟨x, h, rfl⟩
theorem mO_idx {x : Int} (hx : Rch shs T roots x) : ∀ {O : List Int}, (∀ x ∈ O, Rch shs T roots x) → (mO shs T roots O).idxOf (ref1 (sF shs T roots) x) = O.idxOf x
  | [], _ => rfl
  | z :: O, hO => by
    have ih := mO_idx hx (O := O) (fun y hy => hO y (by simp [hy]))
    unfold mO at *
    rw [List.map_cons, List.idxOf_cons, List.idxOf_cons, ih]
    obtain ⟨y1, t1, h1, _⟩ := sF_some (hO z (by simp))
    obtain ⟨y2, t2, h2, _⟩ := sF_some hx
    have hb : (ref1 (sF shs T roots) z == ref1 (sF shs T roots) x) = (z == x) := by
      by_cases e : z = x
      · subst e; simp
      · have : ref1 (sF shs T roots) z ≠ ref1 (sF shs T roots) x := fun e2 => e (by
          rw [ref_some h1, ref_some h2] at e2
          subst e2; exact toF_inj shs _ T 1 1 z x y1 h1 h2)
        rw [beq_false_of_ne e, beq_false_of_ne this]
    rw [hb]
theorem sim_vis {O : List Int} (hO : ∀ x ∈ O, Rch shs T roots x) {x : Int} (hx : Rch shs T roots x) :
    vQ shs (sT shs T roots) (mO shs T roots O) (ref1 (sF shs T roots) x) = mO shs T roots (vQ shs T O x) ∧ vR shs (sT shs T roots) (mO shs T roots O) (ref1 (sF shs T roots) x) = vR shs T O x ∧ ∀ y ∈ vQ shs T O x, Rch shs T roots y := by
  obtain ⟨y, t, h1, h2, h3⟩ := sF_some hx
  have i1 : isT shs T x = true := by unfold isT; rw [h2]; rfl
  have i2 : isT shs (sT shs T roots) (ref1 (sF shs T roots) x) = true := by unfold isT; rw [ref_some h1, h3]; rfl
  have hQ : ∀ y ∈ vQ shs T O x, Rch shs T roots y := by
    intro z hz
    unfold vQ at hz
    split at hz
    · rcases List.mem_append.1 hz with e | e
      · exact hO z e
      · simp at e; subst e; exact hx
    · exact hO z hz
  have hq : vQ shs (sT shs T roots) (mO shs T roots O) (ref1 (sF shs T roots) x) = mO shs T roots (vQ shs T O x) := by
    unfold vQ
    by_cases hxO : x ∈ O
    · rw [if_neg (by rw [mO_mem hO hx]; simp [hxO]), if_neg (by simp [hxO])]
    · rw [if_pos ⟨i2, by rw [mO_mem hO hx]; exact hxO⟩, if_pos ⟨i1, hxO⟩]
      unfold mO; rw [List.map_append]; rfl
  refine ⟨hq, ?_, hQ⟩
  unfold vR
  rw [if_pos i1, if_pos i2, hq, mO_idx hx hQ]
theorem sim_word {a : Int} {t : Thg} (ha : Rch shs T roots a) (ht : findT shs T 1 a = some t) {k : Nat} (hk : k < t.xs.length) (hT : 1 + sumT shs T ≤ 65537) {st : List Int × List Int} (hO : ∀ x ∈ st.1, Rch shs T roots x) :
    gWord shs (sT shs T roots) (isR shs t k) ((mvT shs (sF shs T roots) t).xs.getD k 0) (mO shs T roots st.1, st.2) = (mO shs T roots (gWord shs T (isR shs t k) (t.xs.getD k 0) st).1, (gWord shs T (isR shs t k) (t.xs.getD k 0) st).2) ∧ ∀ x ∈ (gWord shs T (isR shs t k) (t.xs.getD k 0) st).1, Rch shs T roots x := by
  have hm : (mvT shs (sF shs T roots) t).xs.getD k 0 = if k < t.xs.length ∧ isR shs t k = true then ref1 (sF shs T roots) (t.xs.getD k 0) else t.xs.getD k 0 := mvN_at shs _ t _ k hk
  cases hr : isR shs t k with
  | false =>
    rw [hr, if_neg (by simp)] at hm
    rw [hm]
    exact ⟨rfl, hO⟩
  | true =>
    rw [if_pos ⟨hk, hr⟩] at hm
    rw [hm]
    unfold gWord
    rw [if_pos rfl, if_pos rfl]
    generalize hz : t.xs.getD k 0 = z at *
    by_cases hi : (findT shs T 1 z).isSome = true
    · have hzr : Rch shs T roots z := by rw [← hz]; exact .step ha ht hk hr (by rw [hz]; exact hi)
      obtain ⟨y, u, h1, h2, h3⟩ := sF_some hzr
      obtain ⟨v1, v2, v3⟩ := sim_vis hO hzr
      have r1 := find_ge _ _ _ _ h2
      have r2 := toF_range shs _ T 1 1 z y h1
      have hks := keep_sum shs (rchB shs T roots) T 1
      have hp := tsz_pos shs u
      rw [if_pos (by rw [ref_some h1]; omega), if_pos (by omega)]
      dsimp only
      rw [v1, v2]
      exact ⟨rfl, v3⟩
    · have hi2 : isT shs T z = false := by unfold isT; simpa using hi
      rw [sF_none hi2, if_neg (by omega)]
      have e : ∀ O, vQ shs T O z = O ∧ vR shs T O z = 0 := fun O => by
        unfold vR vQ
        rw [hi2]
        exact ⟨if_neg (by simp), if_neg (by decide)⟩
      split
      · rw [(e _).1, (e _).2]
        exact ⟨rfl, hO⟩
      · exact ⟨rfl, hO⟩
theorem sim_words {a : Int} {t : Thg} (ha : Rch shs T roots a) (ht : findT shs T 1 a = some t) (hT : 1 + sumT shs T ≤ 65537) : ∀ (k : Nat), k ≤ t.xs.length → ∀ {st : List Int × List Int}, (∀ x ∈ st.1, Rch shs T roots x) →
    gWords shs (sT shs T roots) (mvT shs (sF shs T roots) t) k (mO shs T roots st.1, st.2) = (mO shs T roots (gWords shs T t k st).1, (gWords shs T t k st).2) ∧ ∀ x ∈ (gWords shs T t k st).1, Rch shs T roots x
  | 0, _, st, hO => ⟨rfl, hO⟩
  | k + 1, hk, st, hO => by
    obtain ⟨h1, h2⟩ := sim_words ha ht hT k (by omega) hO
    obtain ⟨h3, h4⟩ := sim_word ha ht (k := k) (by omega) hT h2
    unfold gWords
    rw [h1]
    exact ⟨h3, h4⟩
theorem sim_thing {x : Int} (hx : Rch shs T roots x) (hT : 1 + sumT shs T ≤ 65537) {st : List Int × List Int} (hO : ∀ x ∈ st.1, Rch shs T roots x) :
    gThing shs (sT shs T roots) (ref1 (sF shs T roots) x) (mO shs T roots st.1, st.2) = (mO shs T roots (gThing shs T x st).1, (gThing shs T x st).2) ∧ ∀ z ∈ (gThing shs T x st).1, Rch shs T roots z := by
  obtain ⟨y, t, h1, h2, h3⟩ := sF_some hx
  unfold gThing
  rw [ref_some h1, h2, h3]
  dsimp only
  have e1 : (mvT shs (sF shs T roots) t).xs.length = t.xs.length := mvT_len _ _ _
  have e2 : (mvT shs (sF shs T roots) t).s = t.s := rfl
  rw [e1, e2]
  exact sim_words hx h2 hT t.xs.length (Nat.le_refl _) (st := (st.1, st.2 ++ [(t.s : Int) % 256, (t.xs.length : Int) % 256])) hO
theorem thing_zero (st : List Int × List Int) : gThing shs T 0 st = st := by
  unfold gThing
  have := is_zero (shs := shs) (T := T)
  unfold isT at this
  cases h : findT shs T 1 0 with
  | none => rfl
  | some t => rw [h] at this; cases this
theorem sim_st {r : Int} (hr : r ∈ roots) (hT : 1 + sumT shs T ≤ 65537) : ∀ i, gSt shs (sT shs T roots) (ref1 (sF shs T roots) r) i = (mO shs T roots (gSt shs T r i).1, (gSt shs T r i).2) ∧ ∀ x ∈ (gSt shs T r i).1, Rch shs T roots x
  | 0 => by
    unfold gSt
    by_cases hi : (findT shs T 1 r).isSome = true
    · obtain ⟨h1, _, h3⟩ := sim_vis (O := []) (fun x hx => by cases hx) (.root hr hi : Rch shs T roots r)
      exact ⟨by rw [← h1]; rfl, h3⟩
    · have hi2 : isT shs T r = false := by unfold isT; simpa using hi
      rw [sF_none hi2]
      unfold vQ
      rw [if_neg (by rw [sT_zero]; simp), if_neg (by rw [hi2]; simp)]
      exact ⟨rfl, fun x hx => by cases hx⟩
  | i + 1 => by
    obtain ⟨h1, h2⟩ := sim_st hr hT i
    unfold gSt
    rw [h1]
    by_cases hi : i < (gSt shs T r i).1.length
    · have e : (mO shs T roots (gSt shs T r i).1).getD i 0 = ref1 (sF shs T roots) ((gSt shs T r i).1.getD i 0) := by
        unfold mO
        rw [List.getD_eq_getElem?_getD, List.getElem?_map, List.getD_eq_getElem?_getD, List.getElem?_eq_getElem hi]; rfl
      dsimp only
      rw [e]
      exact sim_thing (x := (gSt shs T r i).1.getD i 0) (h2 _ (by rw [List.getD_eq_getElem?_getD, List.getElem?_eq_getElem hi]; exact List.getElem_mem _)) hT h2
    · have e1 : (mO shs T roots (gSt shs T r i).1).getD i 0 = 0 := by
        unfold mO
        rw [List.getD_eq_getElem?_getD, List.getElem?_eq_none (by simp; omega)]; rfl
      have e2 : (gSt shs T r i).1.getD i 0 = 0 := by
        rw [List.getD_eq_getElem?_getD, List.getElem?_eq_none (by omega)]; rfl
      dsimp only
      rw [e1, e2, thing_zero, thing_zero]
      exact ⟨rfl, h2⟩
theorem st_stays {r : Int} {N : Nat} (h : (gSt shs T r N).1.length = N) : ∀ d, gSt shs T r (N + d) = gSt shs T r N
  | 0 => rfl
  | d + 1 => by
    have ih := st_stays h d
    show gThing shs T ((gSt shs T r (N + d)).1.getD (N + d) 0) (gSt shs T r (N + d)) = _
    rw [ih, List.getD_eq_getElem?_getD, List.getElem?_eq_none (by omega)]
    exact thing_zero _
theorem st_unique {r : Int} {N M : Nat} (h : (gSt shs T r N).1.length = N) (k : (gSt shs T r M).1.length = M) : gSt shs T r N = gSt shs T r M := by
  rcases Nat.le_total N M with hl | hl
  · obtain ⟨d, rfl⟩ := Nat.exists_eq_add_of_le hl
    exact (st_stays h d).symm
  · obtain ⟨d, rfl⟩ := Nat.exists_eq_add_of_le hl
    exact st_stays k d
theorem graph_same {r : Int} (hr : r ∈ roots) (hT : 1 + sumT shs T ≤ 65537) {N M : Nat} (h : (gSt shs T r N).1.length = N) (k : (gSt shs (sT shs T roots) (ref1 (sF shs T roots) r) M).1.length = M) :
    (gSt shs (sT shs T roots) (ref1 (sF shs T roots) r) M).2 = (gSt shs T r N).2 := by
  have h1 := (sim_st hr hT M).1
  rw [h1] at k ⊢
  have k2 : (gSt shs T r M).1.length = M := by
    have : (mO shs T roots (gSt shs T r M).1).length = (gSt shs T r M).1.length := by unfold mO; simp
    rw [← this]; exact k
  show (gSt shs T r M).2 = _
  rw [st_unique h k2]
theorem rch_map {x : Int} (h : Rch shs T roots x) : ∀ y, sF shs T roots x = some y → Rch shs (sT shs T roots) (roots.map (ref1 (sF shs T roots))) y := by
  induction h with
  | root h1 h2 =>
    intro y hy
    obtain ⟨y2, t, e1, _, e3⟩ := sF_some (.root h1 h2 : Rch shs T roots _)
    rw [hy] at e1; injection e1 with e1; subst e1
    exact .root (List.mem_map.2 ⟨_, h1, ref_some hy⟩) (by rw [e3]; rfl)
  | step h1 h2 h3 h4 h5 ih =>
    rename_i a t i
    intro y hy
    obtain ⟨ya, ta, e1, e2, e3⟩ := sF_some h1
    rw [h2] at e2; injection e2 with e2; subst e2
    obtain ⟨y2, t2, f1, _, f3⟩ := sF_some (.step h1 h2 h3 h4 h5 : Rch shs T roots _)
    rw [hy] at f1; injection f1 with f1; subst f1
    have hm : (mvT shs (sF shs T roots) t).xs.getD i 0 = y := by
      have := mvN_at shs (sF shs T roots) t t.xs.length i h3
      rw [if_pos ⟨h3, h4⟩, ref_some hy] at this
      exact this
    have hs := ih ya e1
    have := Rch.step (i := i) hs e3 (by rw [mvT_len]; exact h3) (by exact h4) (by rw [hm, f3]; rfl)
    rw [hm] at this
    exact this
theorem all_reached : ∀ x, (findT shs (sT shs T roots) 1 x).isSome = true → rchB shs (sT shs T roots) (roots.map (ref1 (sF shs T roots))) x = true := by
  intro y hy
  have h1 : (findT shs (keepT shs (rchB shs T roots) T 1) 1 y).isSome = true := by
    have := mvT_find shs (newF shs (rchB shs T roots) T) (keepT shs (rchB shs T roots) T 1) 1 y
    have e : findT shs (sT shs T roots) 1 y = (findT shs (keepT shs (rchB shs T roots) T 1) 1 y).map (mvT shs (newF shs (rchB shs T roots) T)) := this
    rw [e, Option.isSome_map] at hy
    exact hy
  obtain ⟨x, hx⟩ := (toF_find shs (rchB shs T roots) T 1 1 y).2 h1
  exact (rchB_iff _ _ _ _).2 (rch_map (sF_rch hx) y hx)
theorem toF_id (shs : List S65) {S : Int → Bool} : ∀ (D : List Thg) (b : Nat), (∀ x, (findT shs D b x).isSome = true → S x = true) → ∀ x, toF shs S D b b x = if (findT shs D b x).isSome = true then some x else none
  | [], b, _, x => rfl
  | u :: D, b, h, x => by
    have hp := tsz_pos shs u
    have e0 : ∀ x, findT shs (u :: D) b x = if (b : Int) = x then some u else findT shs D (b + tsz shs u) x := fun x => rfl
    have hb : S (b : Int) = true := h b (by rw [e0, if_pos rfl]; rfl)
    rw [toF_cons, if_pos hb, e0]
    by_cases hx : x = (b : Int)
    · rw [if_pos hx, if_pos hx.symm, hx]; rfl
    · rw [if_neg hx]
      have e1 : (if (b : Int) = x then some u else findT shs D (b + tsz shs u) x) = findT shs D (b + tsz shs u) x := if_neg (fun e => hx e.symm)
      rw [e1]
      exact toF_id shs D _ (fun z hz => h z (by
        rw [e0]
        split
        · rfl
        · exact hz)) x
theorem again_same : (roots.map (ref1 (sF shs T roots))).map (ref1 (sF shs (sT shs T roots) (roots.map (ref1 (sF shs T roots))))) = roots.map (ref1 (sF shs T roots)) := by
  rw [List.map_map]
  apply List.map_congr_left
  intro r hr
  show ref1 (sF shs (sT shs T roots) _) (ref1 (sF shs T roots) r) = ref1 (sF shs T roots) r
  have hid := toF_id shs (sT shs T roots) 1 all_reached
  cases h : sF shs T roots r with
  | some y =>
    obtain ⟨y2, t, e1, _, e3⟩ := sF_some (sF_rch h)
    rw [h] at e1; injection e1 with e1; subst e1
    rw [ref_some h]
    show (toF shs _ (sT shs T roots) 1 1 y).getD 0 = y
    rw [hid y, e3]; rfl
  | none =>
    have : ref1 (sF shs T roots) r = 0 := by unfold ref1; rw [h]; rfl
    rw [this]
    show (toF shs _ (sT shs T roots) 1 1 0).getD 0 = 0
    rw [hid 0, if_neg (by have := sT_zero (shs := shs) (T := T) (roots := roots); unfold isT at this; rw [this]; decide)]
    rfl
theorem again_sum : sumT shs (keepT shs (rchB shs (sT shs T roots) (roots.map (ref1 (sF shs T roots)))) (sT shs T roots) 1) = sumT shs (sT shs T roots) := by
  rw [keep_all shs _ 1 all_reached]
theorem clr_sum : sumT shs (sT shs T roots) = sumT shs (keepT shs (rchB shs T roots) T 1) := mvT_sum _ _ _
end
end Go.Proofs.Ytibhjlmffgabgaa.PAll
