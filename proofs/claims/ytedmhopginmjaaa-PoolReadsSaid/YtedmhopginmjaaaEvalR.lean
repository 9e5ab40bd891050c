/-
  What the document's Name, Type, Method answer, told over lists of bytes: the same as the program's.
-/
import Derived.Test.YtedmhopginmjaaaPAllx7
import Derived.Test.YtedmhopginmjaaaEval
namespace Go.Proofs.Ytedmhopginmjaaa.PAll
open Go.RowKit Go.Proofs.YtedmhopginmjaaaW.PrintWords

/-- What may stand in a name. -/
def mayL : List UInt8 := [97, 98, 99, 100, 101, 102, 103, 104, 105, 106, 107, 108, 109, 110, 111, 112, 113, 114, 115, 116, 117, 118, 119, 120, 121, 122, 65, 66, 67, 68, 69, 70, 71, 72, 73, 74, 75, 76, 77, 78, 79, 80, 81, 82, 83, 84, 85, 86, 87, 88, 89, 90, 48, 49, 50, 51, 52, 53, 54, 55, 56, 57, 95, 36, 47]
def may (m : Bool) : List UInt8 := if m = true then mayL ++ [60, 62] else mayL

theorem may_fin : ∀ m : Bool, ∀ n : Fin 256, decide (0 ≤ Lib.indexByte (may m) (UInt8.ofNat n.val)) = nmCh m n.val := by decide +kernel
theorem may_ch (m : Bool) (c : UInt8) : decide (0 ≤ Lib.indexByte (may m) c) = nmCh m c.toNat := by
  have h := may_fin m ⟨c.toNat, UInt8.toNat_lt c⟩
  simpa using h

theorem rname_l0 (l : List UInt8) (m : Bool) (hl : l.length ≤ big) (s : List UInt8) : ∀ (i k : Nat), l.drop i = s → s.length < k →
    regletref02_Name.l0 k (ba l) (ba (may m)) i = some (s.all (fun b => nmCh m b.toNat) && decide (1 ≤ l.length ∧ l.length ≤ 60)) := by
  have hb : l.length ≤ 281474976710656 := hl
  induction s with
  | nil =>
    intro i k hd hk
    obtain ⟨k, rfl⟩ : ∃ m, k = m + 1 := ⟨k - 1, by omega⟩
    have := drop_nil hd
    simp only [regletref02_Name.l0]
    rw [ba_size, if_neg (by omega), ba_toList]
    by_cases h : l = []
    · rw [if_pos h, h]; rfl
    · rw [if_neg h]
      have : 1 ≤ l.length := by
        rcases Nat.eq_zero_or_pos l.length with h' | h'
        · exact absurd (List.length_eq_zero_iff.1 h') h
        · exact h'
      rw [List.all_nil, Bool.true_and]
      congr 1
      rw [decide_eq_decide]; omega
  | cons c t ih =>
    intro i k hd hk
    obtain ⟨k, rfl⟩ : ∃ m, k = m + 1 := ⟨k - 1, by omega⟩
    obtain ⟨h1, h2, h3⟩ := bt_drop hd
    simp only [List.length_cons] at hk
    simp only [regletref02_Name.l0]
    have hx : (ba l).extract i (i + 1) = ba [c] := by
      rw [ba_extract, List.drop_take, hd, show i + 1 - i = 1 by omega]; rfl
    have hc : strings_Contains.f (ba (may m)) (ba [c]) = some (nmCh m c.toNat) := by
      unfold strings_Contains.f
      rw [if_pos (show (ba [c]).size = 1 from rfl), ← may_ch]
      rfl
    rw [ba_size, if_pos (by omega), if_pos (by omega), wnat1 i (by omega), if_pos (by omega), if_pos (by omega), Int.toNat_natCast, Int.toNat_natCast, hx, hc, Option.bind_some, List.all_cons]
    by_cases hn : nmCh m c.toNat = true
    · rw [if_pos hn, ih (i + 1) k h3 (by omega), hn, Bool.true_and]
    · rw [if_neg hn]
      have : nmCh m c.toNat = false := by simpa using hn
      rw [this, Bool.false_and, Bool.false_and]

theorem rname_eval (l : List UInt8) (m : Bool) (hl : l.length ≤ big) (k : Nat) (hk : l.length + 3 ≤ k) : regletref02_Name.f k (ba l) m = some (nmL m l) := by
  obtain ⟨k, rfl⟩ : ∃ m, k = m + 1 := ⟨k - 1, by omega⟩
  have key : regletref02_Name.j0 (k + 1) (ba l) (ba (may m)) = some (nmL m l) := by
    simp only [regletref02_Name.j0]
    have := rname_l0 l m hl l 0 k rfl (by omega)
    rw [show ((0 : Nat) : Int) = 0 from rfl] at this
    rw [this]
    unfold nmL
    rw [Bool.and_comm]
  unfold regletref02_Name.f
  cases m with
  | false => exact key
  | true => rw [if_pos rfl, if_pos (by decide)]; exact key

theorem rtype_j1 (l : List UInt8) (hl : l.length ≤ big) (k : Nat) (hk : l.length + 10 ≤ k) : regletref02_Type.j1 k (ba l) (brk l) = some (typeR l) := by
  have hb : l.length ≤ 281474976710656 := hl
  obtain ⟨k, rfl⟩ : ∃ m, k = m + 1 := ⟨k - 1, by omega⟩
  have hbl := brk_le l
  have hx : (ba l).extract (brk l) (ba l).size = ba (l.drop (brk l)) := by rw [ba_extract, ba_size, List.take_length]
  have hdl : (l.drop (brk l)).length = l.length - brk l := List.length_drop
  simp only [regletref02_Type.j1]
  rw [Int.toNat_natCast, hx]
  unfold typeR
  generalize hd : l.drop (brk l) = d at hdl ⊢
  rw [if_pos (by omega), ba_size l, if_pos (by omega)]
  by_cases h8 : brk l > 8
  · rw [if_pos (by omega), decide_eq_false (by omega), Bool.false_and]
  rw [if_neg (by omega), decide_eq_true (show brk l ≤ 8 by omega), Bool.true_and, ba_toList]
  by_cases c1 : d = [73]
  · rw [if_pos c1, decide_eq_true c1]; rfl
  rw [if_neg c1, decide_eq_false c1, Bool.false_or]
  by_cases c2 : d = [74]
  · rw [if_pos c2, decide_eq_true c2]; rfl
  rw [if_neg c2, decide_eq_false c2, Bool.false_or, ba_size]
  by_cases c3 : 2 < d.length
  · rw [if_pos (by omega), decide_eq_true c3, Bool.true_and, if_pos (by omega)]
    have hne : d ≠ [] := fun e => by rw [e] at c3; simp at c3
    obtain ⟨x, y, rfl⟩ := List.exists_cons_of_ne_nil hne
    have hlen1 : (x :: y).length = y.length + 1 := rfl
    have h1 : bt (ba (x :: y)) 0 = (x.toNat : Int) := (bt_drop (l := x :: y) (i := 0) (c := x) (t := y) rfl).1
    have hw : wrap64 (((x :: y).length : Int) - 1) = (((x :: y).length - 1 : Nat) : Int) := by unfold wrap64; omega
    rw [h1, hw]
    by_cases c4 : x = 76
    · have e4 : decide ((x :: y).head? = some 76) = true := by simp [c4]
      rw [if_pos ((u76 x).2 c4), e4, Bool.true_and, if_pos (by omega), if_pos (by omega), ba_bt _ _ (by omega)]
      have hlast : (x :: y).getLast? = some ((x :: y)[(x :: y).length - 1]'(by omega)) := by
        rw [List.getLast?_eq_getElem?, List.getElem?_eq_getElem (by omega)]
      by_cases c5 : (x :: y)[(x :: y).length - 1]'(by omega) = 59
      · have e5 : decide ((x :: y).getLast? = some 59) = true := by rw [hlast, c5]; simp
        rw [if_pos ((u59 _).2 c5), e5, Bool.true_and, if_pos (by omega), if_pos (by omega), Int.toNat_natCast, ba_extract, rname_eval _ _ (by rw [List.length_drop, List.length_take]; unfold big; omega) k (by rw [List.length_drop, List.length_take]; omega)]
        rfl
      · have e5 : decide ((x :: y).getLast? = some 59) = false := by rw [hlast, decide_eq_false_iff_not]; exact fun e => c5 (Option.some.inj e)
        rw [if_neg (fun e => c5 ((u59 _).1 e)), e5, Bool.false_and]
    · have e4 : decide ((x :: y).head? = some 76) = false := by simp [c4]
      rw [if_neg (fun e => c4 ((u76 x).1 e)), e4, Bool.false_and, Bool.false_and]
  · rw [if_neg (by omega), decide_eq_false c3, Bool.false_and, Bool.false_and, Bool.false_and]

theorem rtype_l0 (l : List UInt8) (hl : l.length ≤ big) (s : List UInt8) : ∀ (i k : Nat), l.drop i = s → i + brk s = brk l → l.length + 11 + s.length ≤ k →
    regletref02_Type.l0 k (ba l) i = some (typeR l) := by
  have hb : l.length ≤ 281474976710656 := hl
  induction s with
  | nil =>
    intro i k hd hi hk
    obtain ⟨k, rfl⟩ : ∃ m, k = m + 1 := ⟨k - 1, by omega⟩
    have := drop_nil hd
    simp only [List.length_nil] at hk
    simp only [regletref02_Type.l0]
    rw [ba_size, if_neg (by omega)]
    have hi' : i = brk l := hi
    rw [hi']; exact rtype_j1 l hl k (by omega)
  | cons c t ih =>
    intro i k hd hi hk
    obtain ⟨k, rfl⟩ : ∃ m, k = m + 1 := ⟨k - 1, by omega⟩
    obtain ⟨h1, h2, h3⟩ := bt_drop hd
    have e : brk (c :: t) = if c = 91 then brk t + 1 else 0 := rfl
    simp only [List.length_cons] at hk
    simp only [regletref02_Type.l0]
    rw [ba_size, if_pos (by omega), if_pos (by omega), h1]
    by_cases hc : c = 91
    · rw [e, if_pos hc] at hi
      rw [if_pos ((u91 c).2 hc), wnat1 i (by omega)]
      exact ih (i + 1) k h3 (by omega) (by omega)
    · rw [e, if_neg hc] at hi
      have hi' : i = brk l := hi
      rw [if_neg (fun e => hc ((u91 c).1 e)), hi']; exact rtype_j1 l hl k (by omega)

theorem rtype_eval (l : List UInt8) (hl : l.length ≤ big) (k : Nat) (hk : 2 * l.length + 11 ≤ k) : regletref02_Type.f k (ba l) = some (typeL l) := by
  unfold regletref02_Type.f
  rw [typeL_typeR]
  exact rtype_l0 l hl l 0 k rfl (by omega) (by omega)

/-- The search for the shortest type. -/
theorem rmeth_l1 (l : List UInt8) (hl : l.length ≤ big) (acc : List (List UInt8)) (ha : acc.length ≤ 20) (R : List ByteArray × ByteArray × Int) (k0 : Nat)
    (hR : if takeL l = 0 ∨ acc.length = 20 then R = mout none else ∀ k, k0 ≤ k → regletref02_Method.l0 k (ba (l.drop (takeL l))) ((acc ++ [l.take (takeL l)]).map ba) = some R) (d : Nat) :
    ∀ (n k : Nat), 1 ≤ n → n ≤ l.length + 1 → (takeL l = 0 ∨ n ≤ takeL l) → n + d = l.length + 1 → k0 + 2 * l.length + 20 + d ≤ k → regletref02_Method.l1 k (ba l) (acc.map ba) n = some R := by
  have hb : l.length ≤ 281474976710656 := hl
  have hle := takeL_le l
  induction d with
  | zero =>
    intro n k h1 h2 h3 hd hk
    obtain ⟨k, rfl⟩ : ∃ m, k = m + 1 := ⟨k - 1, by omega⟩
    simp only [regletref02_Method.l1]
    rw [ba_size, if_neg (by omega), if_pos (by omega)]
    have h0 : takeL l = 0 := by omega
    rw [if_pos (.inl h0)] at hR
    rw [hR]; rfl
  | succ d ih =>
    intro n k h1 h2 h3 hd hk
    obtain ⟨k, rfl⟩ : ∃ m, k = m + 1 := ⟨k - 1, by omega⟩
    simp only [regletref02_Method.l1]
    have hx : (ba l).extract 0 n = ba (l.take n) := by rw [ba_extract, List.drop_zero]
    have hlen : (l.take n).length = n := by rw [List.length_take]; omega
    rw [ba_size, if_pos (by omega), if_pos (by omega), Int.toNat_natCast, hx, rtype_eval (l.take n) (by unfold big; omega) k (by omega), Option.bind_some, typeL_take l n h1 (by omega)]
    by_cases he : takeL l = n
    · rw [if_pos (by simpa using he), if_neg (by omega)]
      by_cases h20 : acc.length = 20
      · rw [if_pos (by rw [List.length_map]; omega)]
        rw [if_pos (.inr h20)] at hR
        rw [hR]; rfl
      · rw [if_neg (by rw [List.length_map]; omega), if_pos (by rw [List.length_map]; omega)]
        rw [if_neg (by rintro (a | a) <;> omega)] at hR
        have hx2 : (ba l).extract n l.length = ba (l.drop n) := by rw [ba_extract, List.take_length]
        have em : acc.map ba ++ [ba (l.take n)] = (acc ++ [l.take n]).map ba := by simp
        rw [hx2, em, ← he]
        exact hR k (by omega)
    · rw [if_neg (by simpa using he), wnat1 n (by omega)]
      exact ih (n + 1) k (by omega) (by omega) (by omega) (by omega) (by omega)

theorem rmeth_l0 (n : Nat) : ∀ (l : List UInt8) (acc : List (List UInt8)), l.length ≤ big → l.length ≤ n → acc.length ≤ 20 →
    ∃ K, ∀ k, K ≤ k → regletref02_Method.l0 k (ba l) (acc.map ba) = some (mout (methL (n + 1) l acc)) := by
  have nil : ∀ (n : Nat) (acc : List (List UInt8)) (k : Nat), 2 ≤ k → regletref02_Method.l0 k (ba []) (acc.map ba) = some (mout (methL (n + 1) [] acc)) := by
    intro n acc k hk
    obtain ⟨k, rfl⟩ : ∃ m, k = m + 2 := ⟨k - 2, by omega⟩
    simp only [regletref02_Method.l0]
    rw [ba_toList, if_pos rfl]
    simp only [regletref02_Method.j2]
    rw [if_neg (by decide), ba_toList, if_pos rfl]
    rfl
  induction n with
  | zero =>
    intro l acc hl hn ha
    obtain rfl : l = [] := List.length_eq_zero_iff.1 (by omega)
    exact ⟨2, fun k hk => nil 0 acc k hk⟩
  | succ n ih =>
    intro l acc hl hn ha
    have hb : l.length ≤ 281474976710656 := hl
    cases l with
    | nil => exact ⟨2, fun k hk => nil (n + 1) acc k hk⟩
    | cons c t =>
      have hle := takeL_le (c :: t)
      obtain ⟨h1, h2, h3⟩ := bt_drop (l := c :: t) (i := 0) (c := c) (t := t) rfl
      have h1' : bt (ba (c :: t)) 0 = (c.toNat : Int) := h1
      simp only [List.length_cons] at hn hb hle
      rw [methL_cons]
      by_cases hc : c = 41
      · refine ⟨2 * t.length + 20, fun k hk => ?_⟩
        obtain ⟨k, rfl⟩ : ∃ m, k = m + 2 := ⟨k - 2, by omega⟩
        have e : ((c.toNat : Int) != 41) = false := by rw [bne_eq_false_iff_eq, u41]; exact hc
        have ex : (ba (c :: t)).extract 1 (ba (c :: t)).size = ba t := by
          rw [ba_extract, ba_size, List.take_length]; rfl
        simp only [regletref02_Method.l0]
        rw [ba_toList, if_neg (by simp), ba_size, if_pos (by rw [List.length_cons]; omega), h1']
        simp only [regletref02_Method.j2]
        rw [e, if_neg (by decide), ba_toList, if_neg (by simp), ex]
        by_cases hv : t = [86]
        · rw [if_pos (by rw [hc, hv]), if_pos (by rw [ba_size, List.length_cons]; omega), if_pos hc, if_pos (.inl hv)]; rfl
        · rw [if_neg (fun e => hv (List.cons.inj e).2), if_pos (by rw [ba_size, List.length_cons]; omega), rtype_eval t (by unfold big; omega) k (by omega), Option.bind_some, if_pos hc]
          by_cases ht : typeL t = true
          · rw [if_pos ht, if_pos (.inr ht)]; rfl
          · rw [if_neg ht, if_neg (by rintro (a | a); exact hv a; exact ht a)]; rfl
      · rw [if_neg hc]
        have e : ((c.toNat : Int) != 41) = true := by rw [bne_iff_ne, ne_eq, u41]; exact hc
        have fin : ∀ (R : List ByteArray × ByteArray × Int) (k0 : Nat), (if takeL (c :: t) = 0 ∨ acc.length = 20 then R = mout none else ∀ k, k0 ≤ k → regletref02_Method.l0 k (ba ((c :: t).drop (takeL (c :: t)))) ((acc ++ [(c :: t).take (takeL (c :: t))]).map ba) = some R) →
            ∃ K, ∀ k, K ≤ k → regletref02_Method.l0 k (ba (c :: t)) (acc.map ba) = some R := by
          intro R k0 hR
          refine ⟨k0 + 4 * t.length + 40, fun k hk => ?_⟩
          obtain ⟨k, rfl⟩ : ∃ m, k = m + 2 := ⟨k - 2, by omega⟩
          simp only [regletref02_Method.l0]
          rw [ba_toList, if_neg (by simp), ba_size, if_pos (by rw [List.length_cons]; omega), h1']
          simp only [regletref02_Method.j2]
          rw [e, if_pos rfl]
          exact rmeth_l1 (c :: t) hl acc ha R k0 hR (t.length + 1) 1 k (by omega) (by rw [List.length_cons]; omega) (by omega) (by rw [List.length_cons]; omega) (by rw [List.length_cons]; omega)
        by_cases hz : takeL (c :: t) = 0 ∨ acc.length = 20
        · rw [if_pos hz]
          exact fin _ 0 (by rw [if_pos hz])
        · rw [if_neg hz]
          have hz1 : takeL (c :: t) ≠ 0 := fun e => hz (.inl e)
          have hz2 : acc.length ≠ 20 := fun e => hz (.inr e)
          obtain ⟨K, hK⟩ := ih ((c :: t).drop (takeL (c :: t))) (acc ++ [(c :: t).take (takeL (c :: t))]) (by rw [List.length_drop, List.length_cons]; unfold big; omega) (by rw [List.length_drop, List.length_cons]; omega) (by simp; omega)
          exact fin _ K (by rw [if_neg hz]; exact hK)

theorem rmeth_eval (l : List UInt8) (hl : l.length ≤ big) : ∃ K, ∀ k, K ≤ k → regletref02_Method.f k (ba l) = some (mout (methAll l)) := by
  have hb : l.length ≤ 281474976710656 := hl
  cases l with
  | nil =>
    refine ⟨1, fun k hk => ?_⟩
    obtain ⟨k, rfl⟩ : ∃ m, k = m + 1 := ⟨k - 1, by omega⟩
    unfold regletref02_Method.f
    rw [ba_toList, if_pos rfl]
    simp only [regletref02_Method.j0, if_true]
    rfl
  | cons c t =>
    simp only [List.length_cons] at hb
    obtain ⟨K, hK⟩ := rmeth_l0 t.length t [] (by unfold big; omega) (Nat.le_refl _) (Nat.zero_le _)
    refine ⟨K + 1, fun k hk => ?_⟩
    obtain ⟨k, rfl⟩ : ∃ m, k = m + 1 := ⟨k - 1, by omega⟩
    have h1' : bt (ba (c :: t)) 0 = (c.toNat : Int) := (bt_drop (l := c :: t) (i := 0) (c := c) (t := t) rfl).1
    unfold regletref02_Method.f
    rw [ba_toList, if_neg (by simp), ba_size, if_pos (by rw [List.length_cons]; omega), h1']
    simp only [regletref02_Method.j0]
    by_cases hc : c = 40
    · have e : ((c.toNat : Int) != 40) = false := by rw [bne_eq_false_iff_eq, u40]; exact hc
      have ex : (ba (c :: t)).extract 1 (ba (c :: t)).size = ba t := by
        rw [ba_extract, ba_size, List.take_length]; rfl
      rw [e, if_neg (by decide), ba_size, if_pos (by rw [List.length_cons]; omega), ← ba_size (c :: t), ex]
      have em : methAll (c :: t) = methL (t.length + 1) t [] := by
        show (if c = 40 then methL (t.length + 1) t [] else none) = _
        rw [if_pos hc]
      rw [em]
      exact hK k (by omega)
    · have e : ((c.toNat : Int) != 40) = true := by rw [bne_iff_ne, ne_eq, u40]; exact hc
      have em : methAll (c :: t) = none := by
        show (if c = 40 then methL (t.length + 1) t [] else none) = none
        rw [if_neg hc]
      rw [e, if_pos rfl, em]; rfl

end Go.Proofs.Ytedmhopginmjaaa.PAll
