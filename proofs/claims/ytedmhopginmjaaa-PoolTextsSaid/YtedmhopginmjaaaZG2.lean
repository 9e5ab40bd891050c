import Derived.Test.YtedmhopginmjaaaZG7
import Derived.Test.YtedmhopginmjaaaZPAllx4
import Derived.Test.YtedmhopginmjaaaZPAllx7
section
namespace Go.Proofs.Ytedmhopginmjaaa.PAll
open Go.RowKit Go.Proofs.YtedmhopginmjaaaW.PrintWords
def ba (l : List UInt8) : ByteArray := ⟨l.toArray⟩
theorem ba_size (l : List UInt8) : (ba l).size = l.length := rfl
theorem ba_ext {a b : ByteArray} (h : a.data.toList = b.data.toList) : a = b := by
  cases a; cases b; simp at h; simp [h]
theorem ba_extract (l : List UInt8) (i j : Nat) : (ba l).extract i j = ba ((l.take j).drop i) := by
  apply ba_ext
  simp [ba, ByteArray.data_extract, List.drop_take]
theorem ba_bt (l : List UInt8) (i : Nat) (h : i < l.length) : bt (ba l) (i : Int) = ((l[i]).toNat : Int) := by
  unfold bt
  have hs : ((i : Int)).toNat < (ba l).size := by simpa [ba_size] using h
  rw [dif_pos hs]
  simp [ba, ByteArray.getElem_eq_getElem_data]
theorem toList_data (s : ByteArray) : s.toList = s.data.toList := by
  exact ByteArray.toList_eq s
theorem ba_toList (l : List UInt8) : (ba l).toList = l := by rw [toList_data]; rfl
end Go.Proofs.Ytedmhopginmjaaa.PAll
end
section
namespace Go.Proofs.Ytedmhopginmjaaa.PAll
def nmCh (m : Bool) (c : Int) : Bool := decide ((97 ≤ c ∧ c ≤ 122) ∨ (65 ≤ c ∧ c ≤ 90) ∨ (48 ≤ c ∧ c ≤ 57) ∨ c = 95 ∨ c = 36 ∨ c = 47) || (m && decide (c = 60 ∨ c = 62))
def nmL (m : Bool) (l : List UInt8) : Bool := decide (1 ≤ l.length ∧ l.length ≤ 60) && l.all (fun b => nmCh m b.toNat)
def brk : List UInt8 → Nat
  | [] => 0
  | c :: t => if c = 91 then brk t + 1 else 0
def semi : List UInt8 → Nat
  | [] => 0
  | c :: t => if c = 59 then 0 else semi t + 1
def tbody : List UInt8 → Nat
  | [] => 0
  | c :: t => if c = 73 ∨ c = 74 then 1 else if c = 76 then (if semi t < t.length then (if nmL false (t.take (semi t)) = true then semi t + 2 else 0) else 0) else 0
theorem tbody_cons (c : UInt8) (t : List UInt8) : tbody (c :: t) = if c = 73 ∨ c = 74 then 1 else if c = 76 then (if semi t < t.length then (if nmL false (t.take (semi t)) = true then semi t + 2 else 0) else 0) else 0 := rfl
def takeL (l : List UInt8) : Nat := if brk l > 8 then 0 else if tbody (l.drop (brk l)) = 0 then 0 else brk l + tbody (l.drop (brk l))
def typeL (l : List UInt8) : Bool := decide (l ≠ [] ∧ takeL l = l.length)
theorem brk_le (l : List UInt8) : brk l ≤ l.length := by
  induction l with
  | nil => exact Nat.le_refl _
  | cons c t ih => unfold brk; split <;> simp <;> omega
theorem tbody_le (l : List UInt8) : tbody l ≤ l.length := by
  cases l with
  | nil => exact Nat.le_refl _
  | cons c t =>
    rw [tbody_cons]
    split
    · simp
    · split
      · split
        · split
          · simp; omega
          · simp
        · simp
      · simp
theorem takeL_le (l : List UInt8) : takeL l ≤ l.length := by
  have h1 := brk_le l
  have h2 := tbody_le (l.drop (brk l))
  rw [List.length_drop] at h2
  unfold takeL
  split
  · exact Nat.zero_le _
  · split
    · exact Nat.zero_le _
    · omega
end Go.Proofs.Ytedmhopginmjaaa.PAll
end
section
namespace Go.Proofs.Ytedmhopginmjaaa.PAll
open Go.RowKit Go.Proofs.YtedmhopginmjaaaW.PrintWords
theorem u8i (c : UInt8) (n : Nat) (hn : n < 256) : ((c.toNat : Int) = (n : Int)) ↔ (c = UInt8.ofNat n) := by
  have e : (UInt8.ofNat n).toNat = n := by simp; omega
  constructor
  · intro h
    apply UInt8.toNat_inj.1
    rw [e]; omega
  · intro h; rw [h, e]
theorem u91 (c : UInt8) : ((c.toNat : Int) = 91) ↔ (c = 91) := u8i c 91 (by decide)
theorem u73 (c : UInt8) : ((c.toNat : Int) = 73) ↔ (c = 73) := u8i c 73 (by decide)
theorem u74 (c : UInt8) : ((c.toNat : Int) = 74) ↔ (c = 74) := u8i c 74 (by decide)
theorem u76 (c : UInt8) : ((c.toNat : Int) = 76) ↔ (c = 76) := u8i c 76 (by decide)
theorem u59 (c : UInt8) : ((c.toNat : Int) = 59) ↔ (c = 59) := u8i c 59 (by decide)
theorem u40 (c : UInt8) : ((c.toNat : Int) = 40) ↔ (c = 40) := u8i c 40 (by decide)
theorem u41 (c : UInt8) : ((c.toNat : Int) = 41) ↔ (c = 41) := u8i c 41 (by decide)
theorem bt_drop {l t : List UInt8} {i : Nat} {c : UInt8} (h : l.drop i = c :: t) : bt (ba l) (i : Int) = (c.toNat : Int) ∧ i < l.length ∧ l.drop (i + 1) = t := by
  have hi : i < l.length := by
    rcases Nat.lt_or_ge i l.length with h' | h'
    · exact h'
    · rw [List.drop_eq_nil_of_le h'] at h; cases h
  rw [List.drop_eq_getElem_cons hi] at h
  obtain ⟨h1, h2⟩ := List.cons.inj h
  exact ⟨by rw [ba_bt l i hi, h1], hi, h2⟩
theorem drop_nil {l : List UInt8} {i : Nat} (h : l.drop i = []) : l.length ≤ i := List.drop_eq_nil_iff.1 h
theorem wnat1 (i : Nat) (h : i < 4611686018427387904) : wrap64 ((i : Int) + 1) = ((i + 1 : Nat) : Int) := by unfold wrap64; omega
def big : Nat := 281474976710656
theorem name_eval (l : List UInt8) (m : Bool) (hl : l.length ≤ big) : desc_Name.f (ba l) m = some (nmL m l) := by
  unfold desc_Name.f
  unfold big at hl
  rw [ba_size, if_pos (by omega)]
  rfl
theorem take_l1 (l : List UInt8) (n : Nat) (hl : l.length ≤ big) (s : List UInt8) : ∀ (i k : Nat), l.drop i = s → n + 1 ≤ i → s.length < k →
    desc_take.l1 k (ba l) n i = some (if i + semi s < l.length then (if nmL false ((l.take (i + semi s)).drop (n + 1)) = true then ((i + semi s + 1 : Nat) : Int) else 0) else 0) := by
  have hb : l.length ≤ 281474976710656 := hl
  induction s with
  | nil =>
    intro i k hd hn hk
    obtain ⟨k, rfl⟩ : ∃ m, k = m + 1 := ⟨k - 1, by omega⟩
    have := drop_nil hd
    simp only [desc_take.l1]
    rw [ba_size, if_neg (by omega), if_neg (by omega)]
  | cons c t ih =>
    intro i k hd hn hk
    obtain ⟨k, rfl⟩ : ∃ m, k = m + 1 := ⟨k - 1, by omega⟩
    obtain ⟨h1, h2, h3⟩ := bt_drop hd
    simp only [desc_take.l1]
    rw [ba_size, if_pos (by omega), if_pos (by omega), h1]
    by_cases hc : c = 59
    · have e : semi (c :: t) = 0 := by
        show (if c = 59 then 0 else semi t + 1) = 0
        rw [if_pos hc]
      rw [if_pos ((u59 c).2 hc), wnat1 n (by omega), if_pos (by omega), if_pos (by omega), if_pos (by omega), Int.toNat_natCast, Int.toNat_natCast, ba_extract, name_eval _ _ (by rw [List.length_drop, List.length_take]; unfold big at *; omega), Option.bind_some, e]
      simp only [Nat.add_zero]
      rw [if_pos h2, wnat1 i (by omega)]
      split <;> rfl
    · have e : semi (c :: t) = semi t + 1 := by
        show (if c = 59 then 0 else semi t + 1) = _
        rw [if_neg hc]
      rw [if_neg (fun e => hc ((u59 c).1 e)), wnat1 i (by omega), ih (i + 1) k h3 (by omega) (by simp at hk; omega), e, show i + 1 + semi t = i + (semi t + 1) by omega]
theorem take_j1 (l : List UInt8) (hl : l.length ≤ big) (k : Nat) (hk : l.length + 10 ≤ k) : desc_take.j1 k (ba l) (brk l) = some ((takeL l : Nat) : Int) := by
  have hb : l.length ≤ 281474976710656 := hl
  obtain ⟨k, rfl⟩ : ∃ m, k = m + 3 := ⟨k - 3, by omega⟩
  have hbl := brk_le l
  simp only [desc_take.j1]
  by_cases h8 : brk l > 8
  · rw [if_pos (by omega)]
    simp only [desc_take.j2, if_true]
    unfold takeL; rw [if_pos h8]; rfl
  · rw [if_neg (by omega)]
    simp only [desc_take.j2]
    rw [ba_size]
    by_cases hn : brk l = l.length
    · rw [if_pos (by rw [hn]; simp)]
      unfold takeL
      rw [if_neg h8, List.drop_eq_nil_of_le (by omega)]; rfl
    · rw [if_neg (by simp; omega), if_pos (by omega), if_pos (by omega)]
      have hlt : brk l < l.length := by omega
      obtain ⟨c, t, hd⟩ : ∃ c t, l.drop (brk l) = c :: t := ⟨_, _, List.drop_eq_getElem_cons hlt⟩
      obtain ⟨h1, h2, h3⟩ := bt_drop hd
      have htl : t.length + brk l + 1 = l.length := by
        have := congrArg List.length hd
        rw [List.length_drop, List.length_cons] at this; omega
      have key : ∀ b : Bool, (b = true ↔ (c = 73 ∨ c = 74)) → desc_take.j3 (k + 1) (ba l) (brk l) (c.toNat : Int) b = some ((takeL l : Nat) : Int) := by
        intro b hb'
        simp only [desc_take.j3]
        unfold takeL
        rw [if_neg h8, hd, tbody_cons]
        by_cases c1 : c = 73 ∨ c = 74
        · rw [if_pos (hb'.2 c1), if_pos c1, if_neg (by decide), wnat1 _ (by omega)]
        · rw [if_neg (fun e => c1 (hb'.1 e)), if_neg c1]
          by_cases c2 : c = 76
          · rw [if_pos ((u76 c).2 c2), if_pos c2, wnat1 _ (by omega), take_l1 l (brk l) hl t (brk l + 1) k h3 (by omega) (by omega)]
            have ed : (l.take (brk l + 1 + semi t)).drop (brk l + 1) = t.take (semi t) := by
              rw [List.drop_take, h3]; congr 1; omega
            rw [ed]
            by_cases c3 : semi t < t.length
            · rw [if_pos (by omega), if_pos c3]
              by_cases c4 : nmL false (t.take (semi t)) = true
              · rw [if_pos c4, if_pos c4, if_neg (by omega)]; congr 2; omega
              · rw [if_neg c4, if_neg c4, if_pos rfl]; rfl
            · rw [if_neg (by omega), if_neg c3, if_pos rfl]; rfl
          · rw [if_neg (fun e => c2 ((u76 c).1 e)), if_neg c2, if_pos rfl]; rfl
      rw [h1]
      by_cases c1 : c = 73
      · rw [if_pos ((u73 c).2 c1)]; exact key _ (by subst c1; simp)
      · rw [if_neg (fun e => c1 ((u73 c).1 e))]
        refine key _ ?_
        rw [beq_iff_eq, u74]; simp [c1]
theorem take_l0 (l : List UInt8) (hl : l.length ≤ big) (s : List UInt8) : ∀ (i k : Nat), l.drop i = s → i + brk s = brk l → l.length + 11 + s.length ≤ k →
    desc_take.l0 k (ba l) i = some ((takeL l : Nat) : Int) := by
  have hb : l.length ≤ 281474976710656 := hl
  induction s with
  | nil =>
    intro i k hd hi hk
    obtain ⟨k, rfl⟩ : ∃ m, k = m + 1 := ⟨k - 1, by omega⟩
    have := drop_nil hd
    simp only [List.length_nil] at hk
    simp only [desc_take.l0]
    rw [ba_size, if_neg (by omega)]
    have hi' : i = brk l := hi
    rw [hi']; exact take_j1 l hl k (by omega)
  | cons c t ih =>
    intro i k hd hi hk
    obtain ⟨k, rfl⟩ : ∃ m, k = m + 1 := ⟨k - 1, by omega⟩
    obtain ⟨h1, h2, h3⟩ := bt_drop hd
    have e : brk (c :: t) = if c = 91 then brk t + 1 else 0 := rfl
    simp only [List.length_cons] at hk
    simp only [desc_take.l0]
    rw [ba_size, if_pos (by omega), if_pos (by omega), h1]
    by_cases hc : c = 91
    · rw [e, if_pos hc] at hi
      rw [if_pos ((u91 c).2 hc), wnat1 i (by omega)]
      exact ih (i + 1) k h3 (by omega) (by omega)
    · rw [e, if_neg hc] at hi
      have hi' : i = brk l := hi
      rw [if_neg (fun e => hc ((u91 c).1 e)), hi']; exact take_j1 l hl k (by omega)
theorem take_eval (l : List UInt8) (hl : l.length ≤ big) (k : Nat) (hk : 2 * l.length + 11 ≤ k) : desc_take.f k (ba l) = some ((takeL l : Nat) : Int) := by
  unfold desc_take.f
  exact take_l0 l hl l 0 k rfl (by omega) (by omega)
theorem type_eval (l : List UInt8) (hl : l.length ≤ big) (k : Nat) (hk : 2 * l.length + 11 ≤ k) : desc_Type.f k (ba l) = some (typeL l) := by
  unfold desc_Type.f typeL
  rw [ba_toList]
  by_cases h : l = []
  · rw [if_pos h]; simp [h]
  · rw [if_neg h, take_eval l hl k hk, Option.bind_some, ba_size]
    congr 1
    rw [Bool.eq_iff_iff]
    simp [h]
    omega
def methL : Nat → List UInt8 → List (List UInt8) → Option (List (List UInt8) × List UInt8)
  | 0, _, _ => none
  | _ + 1, [], _ => none
  | n + 1, c :: t, acc => if c = 41 then (if t = [86] ∨ typeL t = true then some (acc, t) else none)
      else if takeL (c :: t) = 0 ∨ acc.length = 20 then none else methL n ((c :: t).drop (takeL (c :: t))) (acc ++ [(c :: t).take (takeL (c :: t))])
theorem methL_cons (n : Nat) (c : UInt8) (t : List UInt8) (acc : List (List UInt8)) : methL (n + 1) (c :: t) acc = if c = 41 then (if t = [86] ∨ typeL t = true then some (acc, t) else none)
      else if takeL (c :: t) = 0 ∨ acc.length = 20 then none else methL n ((c :: t).drop (takeL (c :: t))) (acc ++ [(c :: t).take (takeL (c :: t))]) := rfl
def methAll : List UInt8 → Option (List (List UInt8) × List UInt8)
  | [] => none
  | c :: t => if c = 40 then methL (t.length + 1) t [] else none
def mout : Option (List (List UInt8) × List UInt8) → List ByteArray × ByteArray × Int
  | none => ([], ba [], 21)
  | some (a, r) => (a.map ba, ba r, 0)
theorem meth_l0 (n : Nat) : ∀ (l : List UInt8) (acc : List (List UInt8)) (k : Nat), l.length ≤ big → l.length ≤ n → acc.length ≤ 20 → 2 * n + 2 * l.length + 20 ≤ k →
    desc_Method.l0 k (ba l) (acc.map ba) = some (mout (methL (n + 1) l acc)) := by
  induction n with
  | zero =>
    intro l acc k hl hn ha hk
    obtain ⟨k, rfl⟩ : ∃ m, k = m + 2 := ⟨k - 2, by omega⟩
    obtain rfl : l = [] := List.length_eq_zero_iff.1 (by omega)
    simp only [desc_Method.l0]
    rw [ba_toList, if_pos rfl]
    simp only [desc_Method.j2]
    rw [if_neg (by decide), ba_toList, if_pos rfl]
    rfl
  | succ n ih =>
    intro l acc k hl hn ha hk
    obtain ⟨k, rfl⟩ : ∃ m, k = m + 2 := ⟨k - 2, by omega⟩
    have hb : l.length ≤ 281474976710656 := hl
    cases l with
    | nil =>
      simp only [desc_Method.l0]
      rw [ba_toList, if_pos rfl]
      simp only [desc_Method.j2]
      rw [if_neg (by decide), ba_toList, if_pos rfl]
      rfl
    | cons c t =>
      obtain ⟨h1, h2, h3⟩ := bt_drop (l := c :: t) (i := 0) (c := c) (t := t) rfl
      simp only [List.length_cons] at hn hb hk
      simp only [desc_Method.l0]
      have h1' : bt (ba (c :: t)) 0 = (c.toNat : Int) := h1
      rw [ba_toList, if_neg (by simp), ba_size, if_pos (by rw [List.length_cons]; omega), h1', methL_cons]
      simp only [desc_Method.j2]
      by_cases hc : c = 41
      · have e : ((c.toNat : Int) != 41) = false := by rw [bne_eq_false_iff_eq, u41]; exact hc
        have ex : (ba (c :: t)).extract 1 (ba (c :: t)).size = ba t := by
          rw [ba_extract, ba_size, List.take_length]; rfl
        rw [e, if_neg (by decide), ba_toList, if_neg (by simp), ba_size, if_pos (by rw [List.length_cons]; omega), if_pos hc, ← ba_size (c :: t), ex, ba_toList]
        by_cases hv : t = [86]
        · rw [if_pos hv, if_pos (.inl hv)]; rfl
        · rw [if_neg hv, type_eval t (by unfold big; omega) k (by omega), Option.bind_some]
          by_cases ht : typeL t = true
          · rw [if_pos ht, if_pos (.inr ht)]; rfl
          · rw [if_neg ht, if_neg (by rintro (a | a); exact hv a; exact ht a)]; rfl
      · have e : ((c.toNat : Int) != 41) = true := by rw [bne_iff_ne, ne_eq, u41]; exact hc
        have hle := takeL_le (c :: t)
        simp only [List.length_cons] at hle
        rw [e, if_pos rfl, if_neg hc, take_eval (c :: t) hl k (by simp; omega), Option.bind_some]
        by_cases hz : takeL (c :: t) = 0
        · rw [if_pos (by omega), if_pos (.inl hz)]; rfl
        · rw [if_neg (by omega)]
          by_cases h20 : acc.length = 20
          · rw [if_pos (by simp [h20]), if_pos (.inr h20)]; rfl
          · rw [if_neg (by rw [List.length_map]; omega), ba_size, if_pos (by omega), if_pos (by rw [List.length_cons]; omega), if_pos (by rw [List.length_map]; omega), if_neg (by rintro (a | a); exact hz a; exact h20 a),
              Int.toNat_natCast, ba_extract, ba_extract, List.length_cons, ← List.length_cons, List.take_length, List.drop_zero]
            have em : acc.map ba ++ [ba ((c :: t).take (takeL (c :: t)))] = (acc ++ [(c :: t).take (takeL (c :: t))]).map ba := by simp
            rw [em]
            exact ih _ _ k (by rw [List.length_drop, List.length_cons]; unfold big; omega) (by rw [List.length_drop, List.length_cons]; omega) (by simp; omega) (by rw [List.length_drop, List.length_cons]; omega)
theorem meth_eval (l : List UInt8) (hl : l.length ≤ big) (k : Nat) (hk : 4 * l.length + 30 ≤ k) : desc_Method.f k (ba l) = some (mout (methAll l)) := by
  obtain ⟨k, rfl⟩ : ∃ m, k = m + 1 := ⟨k - 1, by omega⟩
  have hb : l.length ≤ 281474976710656 := hl
  unfold desc_Method.f
  rw [ba_toList]
  cases l with
  | nil =>
    rw [if_pos rfl]
    simp only [desc_Method.j0, if_true]
    rfl
  | cons c t =>
    obtain ⟨h1, h2, h3⟩ := bt_drop (l := c :: t) (i := 0) (c := c) (t := t) rfl
    have h1' : bt (ba (c :: t)) 0 = (c.toNat : Int) := h1
    simp only [List.length_cons] at hb hk
    rw [if_neg (by simp), ba_size, if_pos (by rw [List.length_cons]; omega), h1']
    simp only [desc_Method.j0]
    by_cases hc : c = 40
    · have e : ((c.toNat : Int) != 40) = false := by rw [bne_eq_false_iff_eq, u40]; exact hc
      have ex : (ba (c :: t)).extract 1 (ba (c :: t)).size = ba t := by
        rw [ba_extract, ba_size, List.take_length]; rfl
      rw [e, if_neg (by decide), ba_size, if_pos (by rw [List.length_cons]; omega), ← ba_size (c :: t), ex]
      have em : methAll (c :: t) = methL (t.length + 1) t [] := by
        show (if c = 40 then methL (t.length + 1) t [] else none) = _
        rw [if_pos hc]
      rw [em]
      exact meth_l0 t.length t [] k (by unfold big; omega) (Nat.le_refl _) (Nat.zero_le _) (by omega)
    · have e : ((c.toNat : Int) != 40) = true := by rw [bne_iff_ne, ne_eq, u40]; exact hc
      have em : methAll (c :: t) = none := by
        show (if c = 40 then methL (t.length + 1) t [] else none) = none
        rw [if_neg hc]
      rw [e, if_pos rfl, em]; rfl
end Go.Proofs.Ytedmhopginmjaaa.PAll
end
section
namespace Go.Proofs.Ytedmhopginmjaaa.PAll
open Go.RowKit Go.Proofs.YtedmhopginmjaaaW.PrintWords
end Go.Proofs.Ytedmhopginmjaaa.PAll
end
