/- For all texts (longer ones than 300 bytes are passed over by the statement itself): a type's array has it as its element; a class's type has its name; up to eight deep. No condition. -/
import Derived.Test.YtbbogkhidaekoaaParts
namespace Go.Proofs.Ytbbogkhidaekoaa.PAll
open Go.RowKit Go.Proofs.YtbbogkhidaekoaaW.PrintWords

theorem nm_cons {l : List UInt8} (h : nmL false l = true) : ∃ c t, l = c :: t ∧ c ≠ 91 := by
  unfold nmL at h
  rw [Bool.and_eq_true, decide_eq_true_eq, List.all_eq_true] at h
  cases l with
  | nil => simp at h
  | cons c t =>
    refine ⟨c, t, rfl, fun e => ?_⟩
    have := h.2 c (List.mem_cons_self ..)
    rw [e] at this
    revert this; decide

theorem of_name {l : List UInt8} (h : nmL false l = true) : ofL l = 76 :: (l ++ [59]) := by
  obtain ⟨c, t, rfl, hc⟩ := nm_cons h
  unfold ofL
  rw [if_neg (show ¬ (c :: t).head? = some 91 from fun e => hc (Option.some.inj e))]

theorem class_name {l : List UInt8} (h : nmL false l = true) : classL (76 :: (l ++ [59])) = l := by
  obtain ⟨c, t, rfl, hc⟩ := nm_cons h
  unfold classL
  have hlast : (76 :: (c :: t ++ [59])).getLast? = some 59 := by rw [← List.cons_append, List.getLast?_concat]
  rw [if_pos ⟨by simp, rfl, hlast⟩]
  have e : (76 :: (c :: t ++ [59])).length - 1 = (76 :: (c :: t)).length := by simp
  rw [e, ← List.cons_append, List.take_left]
  rfl

theorem type_name {l : List UInt8} (h : nmL false l = true) : typeL (76 :: (l ++ [59])) = true := by
  have hs := semi_of_no (nm_no_semi h) []
  have hb : tbody (76 :: (l ++ [59])) = l.length + 2 := by
    rw [tbody_cons, if_neg (by decide), if_pos rfl, hs, if_pos (by simp), List.take_left, if_pos h]
  unfold typeL takeL
  have e : brk (76 :: (l ++ [59])) = 0 := rfl
  rw [e, if_neg (by decide), List.drop_zero, hb, if_neg (by omega)]
  simp

theorem take_brk (n : Nat) : ∀ l : List UInt8, l.take n = List.replicate n 91 ↔ n ≤ brk l := by
  induction n with
  | zero => intro l; simp
  | succ n ih =>
    intro l
    cases l with
    | nil => simp [brk, List.replicate_succ]
    | cons c t =>
      have e : brk (c :: t) = if c = 91 then brk t + 1 else 0 := rfl
      rw [List.take_succ_cons, List.replicate_succ, e]
      by_cases hc : c = 91
      · rw [if_pos hc, hc]
        constructor
        · intro h; have := (ih t).1 (List.cons.inj h).2; omega
        · intro h; rw [(ih t).2 (by omega)]
      · rw [if_neg hc]
        constructor
        · intro h; exact absurd (List.cons.inj h).1 hc
        · intro h; omega

theorem type_ne {l : List UInt8} (h : typeL l = true) : l ≠ [] ∧ takeL l = l.length ∧ takeL l ≠ 0 := by
  unfold typeL at h
  obtain ⟨h1, h2⟩ := of_decide_eq_true h
  refine ⟨h1, h2, ?_⟩
  have : l.length ≠ 0 := fun e => h1 (List.length_eq_zero_iff.1 e)
  omega

theorem type_arr {l : List UInt8} (h : typeL l = true) : typeL (91 :: l) = decide (¬ 8 ≤ brk l) := by
  obtain ⟨h1, h2, h3⟩ := type_ne h
  obtain ⟨p1, p2, p3, p4⟩ := takeL_parts h3
  have e : brk (91 :: l) = brk l + 1 := rfl
  have ed : (91 :: l).drop (brk (91 :: l)) = l.drop (brk l) := by rw [e, List.drop_succ_cons]
  unfold typeL
  by_cases h8 : 8 ≤ brk l
  · have : takeL (91 :: l) = 0 := by unfold takeL; rw [if_pos (by omega)]
    rw [this, decide_eq_false (by rintro ⟨_, e⟩; simp at e), decide_eq_false (by omega)]
  · have : takeL (91 :: l) = brk l + 1 + tbody (l.drop (brk l)) := by rw [takeL_mk (by omega) (by rw [ed]; exact p2), ed, e]
    rw [this, decide_eq_true ⟨by simp, by rw [List.length_cons]; omega⟩, decide_eq_true h8]

theorem kind_pos {l : List UInt8} (h : typeL l = true) : 0 < kindL l := by
  obtain ⟨h1, h2, h3⟩ := type_ne h
  obtain ⟨p1, p2, p3, p4⟩ := takeL_parts h3
  obtain ⟨c, t, rfl⟩ := List.exists_cons_of_ne_nil h1
  unfold kindL
  have e : brk (c :: t) = if c = 91 then brk t + 1 else 0 := rfl
  by_cases hc : c = 91
  · split
    · decide
    · split
      · decide
      · split
        · decide
        · rw [if_pos (.inr (by rw [hc]; rfl))]; decide
  · rw [e, if_neg hc, List.drop_zero, Nat.zero_add] at p3
    rw [e, if_neg hc, List.drop_zero] at p2
    rw [tbody_cons] at p2 p3
    by_cases c1 : c = 73 ∨ c = 74
    · rw [if_pos c1] at p3
      have : t = [] := List.length_eq_zero_iff.1 (by rw [List.length_cons] at h2; omega)
      subst this
      rcases c1 with rfl | rfl
      · rw [if_pos rfl]; decide
      · rw [if_neg (by decide), if_pos rfl]; decide
    · rw [if_neg c1] at p2
      by_cases c2 : c = 76
      · split
        · decide
        · split
          · decide
          · split
            · decide
            · rw [if_pos (.inl (by rw [c2]; rfl))]; decide
      · rw [if_neg c2] at p2; exact absurd rfl p2

theorem arrays_j0 (l : List UInt8) (hl : l.length ≤ 300) (k : Nat) (hk : 2000 ≤ k) : regletlaw02_DescArrays.j0 k (ba l) false = some true := by
  obtain ⟨k, rfl⟩ : ∃ m, k = m + 1 := ⟨k - 1, by omega⟩
  have hb : l.length ≤ big := by unfold big; omega
  simp only [regletlaw02_DescArrays.j0]
  rw [if_neg (by decide), type_eval l hb k (by omega), Option.bind_some]
  by_cases ht : typeL l = true
  · have ha : (⟨#[91]⟩ : ByteArray) ++ ba l = ba (91 :: l) := ba_append [91] l
    have hp : strings_HasPrefix.f (ba l) (⟨#[91, 91, 91, 91, 91, 91, 91, 91]⟩ : ByteArray) = some (decide (8 ≤ brk l)) := by
      have h1 : (⟨#[91, 91, 91, 91, 91, 91, 91, 91]⟩ : ByteArray) = ba (List.replicate 8 91) := rfl
      rw [h1, prefix_eval, List.length_replicate]
      congr 1
      rw [decide_eq_decide]; exact take_brk 8 l
    have hlen : (91 :: l).length ≤ big := by unfold big; rw [List.length_cons]; omega
    obtain ⟨h1, _, _⟩ := type_ne ht
    have hpos : 0 < l.length := by
      rcases Nat.eq_zero_or_pos l.length with h | h
      · exact absurd (List.length_eq_zero_iff.1 h) h1
      · exact h
    have he : elemL (91 :: l) = l := by unfold elemL; rw [if_pos ⟨by rw [List.length_cons]; omega, rfl⟩]; rfl
    have hk3 : kindL (91 :: l) = 3 := by
      have hne : ∀ c : UInt8, c ≠ 91 → ¬ (91 :: l = [c]) := fun c hc e => hc (List.cons.inj e).1.symm
      unfold kindL
      rw [if_neg (hne 73 (by decide)), if_neg (hne 74 (by decide)), if_neg (hne 78 (by decide)), if_pos (.inr rfl)]
    have ho : ofL (91 :: l) = 91 :: l := by unfold ofL; rw [if_pos (show (91 :: l).head? = some 91 from rfl)]
    rw [if_pos ht, ba_size, if_pos (by omega), hp, Option.bind_some, ha, type_eval _ hlen k (by rw [List.length_cons]; omega), Option.bind_some, type_arr ht, if_pos (by by_cases h8 : 8 ≤ brk l <;> simp [h8]),
      elem_eval, Option.bind_some, he, if_pos rfl, kind_eval, Option.bind_some, hk3, if_pos rfl, of_eval _ hlen, Option.bind_some, ho, if_pos rfl, kind_eval, Option.bind_some, decide_eq_true (kind_pos ht)]
  · rw [if_neg ht]

end Go.Proofs.Ytbbogkhidaekoaa.PAll
namespace Go.Proofs.Ytbbogkhidaekoaa.Pure
open Go.RowKit Go.Proofs.Ytbbogkhidaekoaa.PAll Go.Proofs.YtbbogkhidaekoaaW.PrintWords Go.Proofs.YtbbogkhidaekoaaW.PrintLast

theorem DescArrays : regletlaw02_DescArrays.Pure := by
  intro s hs
  obtain ⟨l, rfl⟩ := ba_ex s
  rw [ba_size] at hs
  refine ⟨3000, ?_⟩
  unfold regletlaw02_DescArrays.f
  rw [holds_some _ (by omega), Option.bind_some, if_pos rfl]
  by_cases h : ((ba l).size : Int) > 300
  · rw [if_pos h]
  rw [ba_size] at h
  have hl : l.length ≤ 300 := by omega
  have hb : l.length ≤ big := by unfold big; omega
  rw [if_neg (by rw [ba_size]; exact h), name_eval l false hb, Option.bind_some]
  by_cases hn : nmL false l = true
  · have hlen : (76 :: (l ++ [59])).length ≤ big := by unfold big; simp; omega
    have hk3 : kindL (76 :: (l ++ [59])) = 3 := by
      have hne : ∀ c : UInt8, c ≠ 76 → ¬ (76 :: (l ++ [59]) = [c]) := fun c hc e => hc (List.cons.inj e).1.symm
      unfold kindL
      rw [if_neg (hne 73 (by decide)), if_neg (hne 74 (by decide)), if_neg (hne 78 (by decide)), if_pos (.inl rfl)]
    rw [if_pos hn, of_eval l hb, Option.bind_some, of_name hn, class_eval _ hlen, Option.bind_some, class_name hn, if_pos rfl, Option.bind_some, type_eval _ hlen _ (by simp; omega), Option.bind_some, type_name hn, if_pos rfl,
      Option.bind_some, kind_eval, Option.bind_some, hk3]
    exact arrays_j0 l hl 3000 (by decide)
  · rw [if_neg hn]
    exact arrays_j0 l hl 3000 (by decide)

end Go.Proofs.Ytbbogkhidaekoaa.Pure
