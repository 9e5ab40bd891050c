/-
  A method's descriptor is its parts again, one behind the other; parts that are types make one: the plain law.
-/
import Derived.Test.YtbbogkhidaekoaaPAllx9
import Derived.Test.YtbbogkhidaekoaaSame
import Derived.Test.YtbbogkhidaekoaaPureDescLimits
namespace Go.Proofs.Ytbbogkhidaekoaa.PAll
open Go.RowKit Go.Proofs.YtbbogkhidaekoaaW.PrintWords

theorem meth_whole (n : Nat) : ∀ (l : List UInt8) (acc a : List (List UInt8)) (r : List UInt8), methL n l acc = some (a, r) → acc.flatten ++ l = a.flatten ++ 41 :: r := by
  induction n with
  | zero => intro l acc a r h; cases h
  | succ n ih =>
    intro l acc a r h
    cases l with
    | nil => cases h
    | cons c t =>
      rw [methL_cons] at h
      by_cases hc : c = 41
      · rw [if_pos hc] at h
        by_cases h2 : t = [86] ∨ typeL t = true
        · rw [if_pos h2] at h
          obtain ⟨rfl, rfl⟩ := Prod.mk.inj (Option.some.inj h)
          rw [hc]
        · rw [if_neg h2] at h; cases h
      · rw [if_neg hc] at h
        by_cases h2 : takeL (c :: t) = 0 ∨ acc.length = 20
        · rw [if_pos h2] at h; cases h
        · rw [if_neg h2] at h
          have := ih _ _ a r h
          rw [← this, List.flatten_append, List.append_assoc]
          congr 1
          simp

theorem meth_parts (xs : List (List UInt8)) (r : List UInt8) (hr : r = [86] ∨ typeL r = true) : ∀ (n : Nat) (acc : List (List UInt8)), (∀ x ∈ xs, typeL x = true) → acc.length + xs.length ≤ 20 → xs.length < n →
    methL n (xs.flatten ++ 41 :: r) acc = some (acc ++ xs, r) := by
  induction xs with
  | nil =>
    intro n acc _ ha hn
    obtain ⟨n, rfl⟩ : ∃ x, n = x + 1 := ⟨n - 1, by omega⟩
    rw [List.flatten_nil, List.nil_append, methL_cons, if_pos rfl, if_pos hr, List.append_nil]
  | cons l xs ih =>
    intro n acc hx ha hn
    obtain ⟨n, rfl⟩ : ∃ x, n = x + 1 := ⟨n - 1, by omega⟩
    simp only [List.length_cons] at ha hn
    have h := hx l (List.mem_cons_self ..)
    obtain ⟨h1, h2, h3⟩ := type_ne h
    obtain ⟨c, t, e, hc⟩ := type_first h
    have el : (l :: xs).flatten ++ 41 :: r = l ++ (xs.flatten ++ 41 :: r) := by rw [List.flatten_cons, List.append_assoc]
    have ec : l ++ (xs.flatten ++ 41 :: r) = c :: (t ++ (xs.flatten ++ 41 :: r)) := by rw [e, List.cons_append]
    have et : takeL (l ++ (xs.flatten ++ 41 :: r)) = l.length := by rw [takeL_app h3, h2]
    rw [el, ec, methL_cons, if_neg hc, ← ec, et]
    have hl0 : l.length ≠ 0 := by rw [← h2]; exact h3
    rw [if_neg (by rintro (a | a); exact hl0 a; omega), List.drop_left, List.take_left, ih n _ (fun x hx' => hx x (List.mem_cons_of_mem _ hx')) (by simp; omega) (by omega)]
    simp

theorem join_flat (xs : List (List UInt8)) : Lib.join xs [] = xs.flatten := by
  unfold Lib.join
  induction xs with
  | nil => rfl
  | cons x t ih =>
    cases t with
    | nil => simp [List.intercalate]
    | cons y z =>
      rw [List.flatten_cons, ← ih]
      simp [List.intercalate]

theorem join_eval (xs : List (List UInt8)) (hl : xs.length ≤ 140737488355328) (hs : xs.flatten.length ≤ 140737488355328) : strings_Join.f (xs.map ba) (⟨#[]⟩ : ByteArray) = some (ba xs.flatten) := by
  have e : (xs.map ba).map (fun s : ByteArray => s.data.toList) = xs := by
    rw [List.map_map]
    have : ((fun s : ByteArray => s.data.toList) ∘ ba) = id := rfl
    rw [this, List.map_id]
  have e2 : Lib.join ((xs.map ba).map (fun s : ByteArray => s.data.toList)) (⟨#[]⟩ : ByteArray).data.toList = xs.flatten := by
    rw [e]; exact join_flat xs
  unfold strings_Join.f
  rw [e2, if_pos (by rw [List.length_map]; exact hl), if_pos hs]
  rfl

theorem whole_sum (a b : List UInt8) (h : a.length + b.length ≤ 1000000000) {α : Type} (F : ByteArray → Option α) :
    (if 1 + (ba a).size ≤ 9223372036854775807 then (if ((⟨#[40]⟩ : ByteArray) ++ ba a).size + 1 ≤ 9223372036854775807 then (if (((⟨#[40]⟩ : ByteArray) ++ ba a) ++ (⟨#[41]⟩ : ByteArray)).size + (ba b).size ≤ 9223372036854775807 then F ((((⟨#[40]⟩ : ByteArray) ++ ba a) ++ (⟨#[41]⟩ : ByteArray)) ++ ba b) else none) else none) else none) = F (ba (40 :: (a ++ 41 :: b))) := by
  have a1 : (⟨#[40]⟩ : ByteArray) ++ ba a = ba (40 :: a) := ba_append [40] _
  have a2 : ba (40 :: a) ++ (⟨#[41]⟩ : ByteArray) = ba (40 :: a ++ [41]) := ba_append _ [41]
  have a3 : ba (40 :: a ++ [41]) ++ ba b = ba (40 :: (a ++ 41 :: b)) := by rw [ba_append]; simp
  rw [a1, a2, a3, ba_size, if_pos (by omega), ba_size, if_pos (by simp only [List.length_cons]; omega), ba_size, ba_size, if_pos (by simp only [List.length_cons, List.length_append, List.length_nil]; omega)]

/-- The end of the law: all parts have been looked at. -/
theorem whole_fin (xs : List (List UInt8)) (r : List UInt8) (hx : xs.length ≤ 2000000) (hs : xs.flatten.length + r.length ≤ 100000000) (b : Bool) (hb : b = true → xs.length ≤ 20 ∧ (r = [86] ∨ typeL r = true) ∧ ∀ x ∈ xs, typeL x = true)
    (k : Nat) (hk : 500000000 ≤ k) (i : Int) (hi : ¬ i < (xs.length : Int)) :
    regletlaw02_DescWhole.l0 (k + 1) (xs.map ba) (ba r) (ba (40 :: (xs.flatten ++ 41 :: r))) b (xs.map ba) (xs.length : Int) i = some true := by
  have hlen : (40 :: (xs.flatten ++ 41 :: r)).length ≤ 100000002 := by simp only [List.length_cons, List.length_append]; omega
  simp only [regletlaw02_DescWhole.l0]
  rw [if_neg hi, meth_eval _ (by unfold big; omega) k (by omega), Option.bind_some]
  cases hm : methAll (40 :: (xs.flatten ++ 41 :: r)) with
  | none =>
    cases b with
    | false => rfl
    | true =>
      exfalso
      obtain ⟨h1, h2, h3⟩ := hb rfl
      have h' : methL ((xs.flatten ++ 41 :: r).length + 1) (xs.flatten ++ 41 :: r) [] = none := hm
      have hne : ∀ x ∈ xs, 1 ≤ x.length := fun x hx => by
        obtain ⟨h1, _, _⟩ := type_ne (h3 x hx)
        rcases Nat.eq_zero_or_pos x.length with h | h
        · exact absurd (List.length_eq_zero_iff.1 h) h1
        · exact h
      have hfl : ∀ ys : List (List UInt8), (∀ x ∈ ys, 1 ≤ x.length) → ys.length ≤ ys.flatten.length := by
        intro ys
        induction ys with
        | nil => intro _; exact Nat.zero_le _
        | cons y z ih =>
          intro h
          have := ih (fun x hx => h x (List.mem_cons_of_mem _ hx))
          have := h y (List.mem_cons_self ..)
          rw [List.flatten_cons, List.length_cons, List.length_append]; omega
      have := hfl xs hne
      rw [meth_parts xs r h2 _ [] h3 (by simpa using h1) (by rw [List.length_append]; omega)] at h'
      cases h'
  | some p =>
    obtain ⟨a, back⟩ := p
    have h' : methL ((xs.flatten ++ 41 :: r).length + 1) (xs.flatten ++ 41 :: r) [] = some (a, back) := hm
    have hw := meth_whole _ _ _ _ _ h'
    rw [List.flatten_nil, List.nil_append] at hw
    have hal := methL_len _ _ _ _ _ (Nat.zero_le _) h'
    have hfl := congrArg List.length hw
    simp only [List.length_append, List.length_cons] at hfl
    simp only [mout]
    rw [if_pos trivial, join_eval a (by omega) (by omega), Option.bind_some]
    refine Eq.trans (whole_sum a.flatten back (by omega) (fun s => if s.toList = (ba (40 :: (xs.flatten ++ 41 :: r))).toList then (if b = true then (if (ba back).toList = (ba r).toList then ((regletref02_Same.f k (xs.map ba) (a.map ba)).bind fun t158 => (some t158)) else (some false)) else (some true)) else (some false))) ?_
    rw [← hw, if_pos rfl]
    cases b with
    | false => rfl
    | true =>
      obtain ⟨h1, h2, h3⟩ := hb rfl
      have hne : ∀ x ∈ xs, 1 ≤ x.length := fun x hx => by
        obtain ⟨h1, _, _⟩ := type_ne (h3 x hx)
        rcases Nat.eq_zero_or_pos x.length with h | h
        · exact absurd (List.length_eq_zero_iff.1 h) h1
        · exact h
      have hfl : ∀ ys : List (List UInt8), (∀ x ∈ ys, 1 ≤ x.length) → ys.length ≤ ys.flatten.length := by
        intro ys
        induction ys with
        | nil => intro _; exact Nat.zero_le _
        | cons y z ih =>
          intro h
          have := ih (fun x hx => h x (List.mem_cons_of_mem _ hx))
          have := h y (List.mem_cons_self ..)
          rw [List.flatten_cons, List.length_cons, List.length_append]; omega
      have := hfl xs hne
      rw [meth_parts xs r h2 _ [] h3 (by simpa using h1) (by rw [List.length_append]; omega)] at h'
      obtain ⟨e1, e2⟩ := Prod.mk.inj (Option.some.inj h')
      rw [List.nil_append] at e1
      subst e1; subst e2
      rw [if_pos rfl, if_pos rfl, same_some _ _ (by rw [List.length_map]; omega) _ (by rw [List.length_map]; omega), Option.bind_some]
      simp

theorem whole_l0 (xs : List (List UInt8)) (r : List UInt8) (hx : xs.length ≤ 2000000) (hs : xs.flatten.length + r.length ≤ 100000000) (d : Nat) :
    ∀ (i : Nat) (b : Bool) (k : Nat), i + d = xs.length → (b = true → xs.length ≤ 20 ∧ (r = [86] ∨ typeL r = true) ∧ ∀ x ∈ xs.take i, typeL x = true) → 500000001 + d ≤ k →
    regletlaw02_DescWhole.l0 k (xs.map ba) (ba r) (ba (40 :: (xs.flatten ++ 41 :: r))) b (xs.map ba) (xs.length : Int) i = some true := by
  induction d with
  | zero =>
    intro i b k hi hb hk
    obtain ⟨k, rfl⟩ : ∃ m, k = m + 1 := ⟨k - 1, by omega⟩
    refine whole_fin xs r hx hs b (fun h => ?_) k (by omega) i (by omega)
    have := hb h
    rwa [List.take_of_length_le (by omega)] at this
  | succ d ih =>
    intro i b k hi hb hk
    obtain ⟨k, rfl⟩ : ∃ m, k = m + 1 := ⟨k - 1, by omega⟩
    have hix : i < xs.length := by omega
    have hxl : xs[i].length ≤ xs.flatten.length := by
      have aux : ∀ (ys : List (List UInt8)) (y : List UInt8), y ∈ ys → y.length ≤ ys.flatten.length := by
        intro ys
        induction ys with
        | nil => intro y hy; simp at hy
        | cons z zs ih =>
          intro y hy
          rw [List.flatten_cons, List.length_append]
          rcases List.mem_cons.1 hy with h | h
          · rw [h]; omega
          · have := ih y h; omega
      exact aux xs _ (List.getElem_mem hix)
    have er : rdOf ByteArray.empty (xs.map ba) (i : Int) = ba xs[i] := by unfold rdOf; simp [List.getD_eq_getElem?_getD, hix]
    simp only [regletlaw02_DescWhole.l0]
    rw [if_pos (by omega), if_pos (by omega), if_pos (by rw [List.length_map]; omega), wnat1 i (by omega)]
    cases b with
    | false =>
      rw [if_neg (by decide)]
      exact ih (i + 1) false k (by omega) (fun h => by cases h) (by omega)
    | true =>
      rw [if_pos rfl, er, type_eval _ (by unfold big; omega) k (by omega), Option.bind_some]
      refine ih (i + 1) _ k (by omega) (fun h => ?_) (by omega)
      obtain ⟨h1, h2, h3⟩ := hb rfl
      refine ⟨h1, h2, fun x hx' => ?_⟩
      rw [List.take_succ_eq_append_getElem hix, List.mem_append, List.mem_singleton] at hx'
      rcases hx' with h4 | h4
      · exact h3 x h4
      · rw [h4]; exact h

theorem whole (xs : List (List UInt8)) (r : List UInt8) (hx : xs.length ≤ 2000000) (hs : xs.flatten.length + r.length ≤ 100000000) : regletlaw02_DescWhole.f 600000000 (xs.map ba) (ba r) = some true := by
  have hj : ∀ b : Bool, (b = true → xs.length ≤ 20 ∧ (r = [86] ∨ typeL r = true)) → regletlaw02_DescWhole.j0 600000000 (xs.map ba) (ba r) (ba (40 :: (xs.flatten ++ 41 :: r))) b = some true := by
    intro b hb
    show regletlaw02_DescWhole.l0 599999999 (xs.map ba) (ba r) (ba (40 :: (xs.flatten ++ 41 :: r))) b (xs.map ba) ((xs.map ba).length : Int) 0 = some true
    rw [List.length_map]
    exact whole_l0 xs r hx hs xs.length 0 b 599999999 (by omega) (fun h => ⟨(hb h).1, (hb h).2, fun x hx => by simp at hx⟩) (by omega)
  unfold regletlaw02_DescWhole.f
  rw [holds_some _ (by omega), Option.bind_some, if_pos rfl, join_eval xs (by omega) (by omega), Option.bind_some]
  refine Eq.trans (whole_sum xs.flatten r (by omega) (fun s => if ((xs.map ba).length : Int) ≤ 20 then (if (ba r).toList = ([86] : List UInt8) then (regletlaw02_DescWhole.j0 600000000 (xs.map ba) (ba r) s true) else ((desc_Type.f 600000000 (ba r)).bind fun t149 => (regletlaw02_DescWhole.j0 600000000 (xs.map ba) (ba r) s t149))) else (regletlaw02_DescWhole.j0 600000000 (xs.map ba) (ba r) s false))) ?_
  rw [List.length_map, ba_toList]
  by_cases h20 : (xs.length : Int) ≤ 20
  · rw [if_pos h20]
    by_cases hv : r = [86]
    · rw [if_pos hv]; exact hj true (fun _ => ⟨by omega, .inl hv⟩)
    · rw [if_neg hv, type_eval r (by unfold big; omega) _ (by omega), Option.bind_some]
      exact hj _ (fun h => ⟨by omega, .inr h⟩)
  · rw [if_neg h20]; exact hj false (fun h => by cases h)

end Go.Proofs.Ytbbogkhidaekoaa.PAll
