/-
  Kinds, classes, elements of types, told over lists of bytes.
-/
import Derived.Test.YtbbogkhidaekoaaEvalR
namespace Go.Proofs.Ytbbogkhidaekoaa.PAll
open Go.RowKit Go.Proofs.YtbbogkhidaekoaaW.PrintWords

def kindL (l : List UInt8) : Int := if l = [73] then 1 else if l = [74] then 2 else if l = [78] then 3 else if l.head? = some 76 ∨ l.head? = some 91 then 3 else 0
def ofL (l : List UInt8) : List UInt8 := if l.head? = some 91 then l else 76 :: (l ++ [59])
def classL (l : List UInt8) : List UInt8 := if 2 < l.length ∧ l.head? = some 76 ∧ l.getLast? = some 59 then (l.take (l.length - 1)).drop 1 else []
def elemL (l : List UInt8) : List UInt8 := if 1 < l.length ∧ l.head? = some 91 then l.drop 1 else []

theorem bt_head (c : UInt8) (t : List UInt8) : bt (ba (c :: t)) 0 = (c.toNat : Int) := (bt_drop (l := c :: t) (i := 0) (c := c) (t := t) rfl).1

theorem prefix_eval (a b : List UInt8) : strings_HasPrefix.f (ba a) (ba b) = some (decide (a.take b.length = b)) := by
  unfold strings_HasPrefix.f stringslite_HasPrefix.f
  rw [ba_size, ba_size]
  by_cases h : (a.length : Int) ≥ (b.length : Int)
  · rw [if_pos h, if_pos (by omega), if_pos (by omega), Option.bind_some, Int.toNat_natCast, ba_extract, List.drop_zero, ba_toList, ba_toList]
    congr 1
    rw [Bool.eq_iff_iff]; simp
  · rw [if_neg h, Option.bind_some, decide_eq_false]
    intro e
    have := congrArg List.length e
    rw [List.length_take] at this; omega

theorem take_one (l : List UInt8) (c : UInt8) : decide (l.take [c].length = [c]) = decide (l.head? = some c) := by
  cases l with
  | nil => simp
  | cons x y => simp

theorem kind_eval (l : List UInt8) : desc_Kind.f (ba l) = some (kindL l) := by
  unfold desc_Kind.f kindL
  rw [ba_toList]
  by_cases h1 : l = [73]
  · rw [if_pos h1, if_pos h1]
  rw [if_neg h1, if_neg h1]
  by_cases h2 : l = [74]
  · rw [if_pos h2, if_pos h2]
  rw [if_neg h2, if_neg h2]
  by_cases h3 : l = [78]
  · rw [if_pos h3, if_pos h3]
  rw [if_neg h3, if_neg h3]
  cases l with
  | nil => rw [if_pos rfl]; rfl
  | cons c t =>
    rw [if_neg (by simp), ba_size, if_pos (by rw [List.length_cons]; omega), bt_head]
    by_cases c1 : c = 76
    · rw [if_pos ((u76 c).2 c1), if_pos (.inl (by rw [c1]; rfl))]
    rw [if_neg (fun e => c1 ((u76 c).1 e))]
    by_cases c2 : c = 91
    · rw [if_pos ((u91 c).2 c2), if_pos (.inr (by rw [c2]; rfl))]
    rw [if_neg (fun e => c2 ((u91 c).1 e)), if_neg (by rintro (e | e); exact c1 (Option.some.inj e); exact c2 (Option.some.inj e))]

theorem rkind_eval (l : List UInt8) : regletref02_Kind.f (ba l) = some (kindL l) := by
  unfold regletref02_Kind.f kindL
  rw [ba_toList]
  by_cases h1 : l = [73]
  · rw [if_pos h1, if_pos h1]
  rw [if_neg h1, if_neg h1]
  by_cases h2 : l = [74]
  · rw [if_pos h2, if_pos h2]
  rw [if_neg h2, if_neg h2]
  by_cases h3 : l = [78]
  · rw [if_pos h3, if_pos h3]
  rw [if_neg h3, if_neg h3]
  have e1 : strings_HasPrefix.f (ba l) (⟨#[76]⟩ : ByteArray) = some (decide (l.head? = some 76)) := by
    rw [← take_one]; exact prefix_eval l [76]
  have e2 : strings_HasPrefix.f (ba l) (⟨#[91]⟩ : ByteArray) = some (decide (l.head? = some 91)) := by
    rw [← take_one]; exact prefix_eval l [91]
  rw [e1, Option.bind_some]
  by_cases c1 : l.head? = some 76
  · rw [if_pos (decide_eq_true c1), if_pos (.inl c1)]
  rw [if_neg (by simpa using c1), e2, Option.bind_some]
  by_cases c2 : l.head? = some 91
  · rw [if_pos (decide_eq_true c2), if_pos (.inr c2)]
  rw [if_neg (by simpa using c2), if_neg (by rintro (e | e); exact c1 e; exact c2 e)]

theorem sum3 (l : List UInt8) (hl : l.length ≤ big) : (if 1 + (ba l).size ≤ 9223372036854775807 then (if ((⟨#[76]⟩ : ByteArray) ++ ba l).size + 1 ≤ 9223372036854775807 then (some (((⟨#[76]⟩ : ByteArray) ++ ba l) ++ (⟨#[59]⟩ : ByteArray))) else (none)) else (none)) = some (ba (76 :: (l ++ [59]))) := by
  have h1 : (⟨#[76]⟩ : ByteArray) ++ ba l = ba (76 :: l) := ba_append [76] l
  have h2 : ba (76 :: l) ++ (⟨#[59]⟩ : ByteArray) = ba (76 :: l ++ [59]) := ba_append (76 :: l) [59]
  unfold big at hl
  rw [h1, h2, ba_size, ba_size, if_pos (by omega), if_pos (by rw [List.length_cons]; omega), List.cons_append]

theorem of_eval (l : List UInt8) (hl : l.length ≤ big) : desc_Of.f (ba l) = some (ba (ofL l)) := by
  unfold desc_Of.f ofL
  rw [ba_toList, sum3 l hl]
  cases l with
  | nil => rw [if_pos rfl]; rfl
  | cons c t =>
    rw [if_neg (by simp), ba_size, if_pos (by rw [List.length_cons]; omega), bt_head]
    by_cases c2 : c = 91
    · rw [if_pos ((u91 c).2 c2), if_pos (by rw [c2]; rfl)]
    · rw [if_neg (fun e => c2 ((u91 c).1 e)), if_neg (show ¬ (c :: t).head? = some 91 from fun e => c2 (Option.some.inj e))]

theorem rof_eval (l : List UInt8) (hl : l.length ≤ big) : regletref02_Of.f (ba l) = some (ba (ofL l)) := by
  unfold regletref02_Of.f ofL
  have e2 : strings_HasPrefix.f (ba l) (⟨#[91]⟩ : ByteArray) = some (decide (l.head? = some 91)) := by
    rw [← take_one]; exact prefix_eval l [91]
  rw [e2, Option.bind_some, sum3 l hl]
  by_cases c2 : l.head? = some 91
  · rw [if_pos (decide_eq_true c2), if_pos c2]
  · rw [if_neg (by simpa using c2), if_neg c2]

theorem getLast_at (l : List UInt8) (h : 0 < l.length) : l.getLast? = some (l[l.length - 1]'(by omega)) := by
  rw [List.getLast?_eq_getElem?, List.getElem?_eq_getElem (by omega)]

theorem class_parts (l : List UInt8) (hl : l.length ≤ big) (h : 2 < l.length) : (if 0 < ((ba l).size : Int) then (if (bt (ba l) 0) = 76 then (if 0 ≤ (wrap64 (((ba l).size : Int) - 1)) then (if (wrap64 (((ba l).size : Int) - 1)) < ((ba l).size : Int) then (if (bt (ba l) (wrap64 (((ba l).size : Int) - 1))) = 59 then (if 1 ≤ (wrap64 (((ba l).size : Int) - 1)) then (if (wrap64 (((ba l).size : Int) - 1)) ≤ ((ba l).size : Int) then (some ((ba l).extract 1 ((wrap64 (((ba l).size : Int) - 1)) : Int).toNat)) else (none)) else (none)) else (some (⟨#[]⟩ : ByteArray))) else (none)) else (none)) else (some (⟨#[]⟩ : ByteArray))) else (none)) = some (ba (classL l)) := by
  unfold big at hl
  unfold classL
  have hw : wrap64 ((l.length : Int) - 1) = ((l.length - 1 : Nat) : Int) := by unfold wrap64; omega
  rw [ba_size, if_pos (by omega), hw]
  have hne : l ≠ [] := fun e => by rw [e] at h; simp at h
  obtain ⟨x, y, rfl⟩ := List.exists_cons_of_ne_nil hne
  rw [bt_head]
  by_cases c4 : x = 76
  · rw [if_pos ((u76 x).2 c4), if_pos (by omega), if_pos (by omega), ba_bt _ _ (by omega)]
    have hlast := getLast_at (x :: y) (by omega)
    by_cases c5 : (x :: y)[(x :: y).length - 1]'(by omega) = 59
    · rw [if_pos ((u59 _).2 c5), if_pos (by omega), if_pos (by omega), Int.toNat_natCast, ba_extract, if_pos ⟨h, by rw [c4]; rfl, by rw [hlast, c5]⟩]
    · rw [if_neg (fun e => c5 ((u59 _).1 e)), if_neg (by rintro ⟨_, _, e⟩; rw [hlast] at e; exact c5 (Option.some.inj e))]; rfl
  · rw [if_neg (fun e => c4 ((u76 x).1 e)), if_neg (by rintro ⟨_, e, _⟩; exact c4 (Option.some.inj e))]; rfl

theorem class_eval (l : List UInt8) (hl : l.length ≤ big) : desc_Class.f (ba l) = some (ba (classL l)) := by
  unfold desc_Class.f
  by_cases h : 2 < l.length
  · rw [if_pos (by rw [ba_size]; omega)]; exact class_parts l hl h
  · rw [if_neg (by rw [ba_size]; omega)]
    unfold classL; rw [if_neg (fun e => h e.1)]; rfl
theorem rclass_eval (l : List UInt8) (hl : l.length ≤ big) : regletref02_Class.f (ba l) = some (ba (classL l)) := by
  unfold regletref02_Class.f
  by_cases h : 2 < l.length
  · rw [if_neg (by rw [ba_size]; omega)]; exact class_parts l hl h
  · rw [if_pos (by rw [ba_size]; omega)]
    unfold classL; rw [if_neg (fun e => h e.1)]; rfl

theorem elem_parts (l : List UInt8) (h : 1 < l.length) : (if 0 < ((ba l).size : Int) then (if (bt (ba l) 0) = 91 then (if 1 ≤ ((ba l).size : Int) then (some ((ba l).extract 1 (ba l).size)) else (none)) else (some (⟨#[]⟩ : ByteArray))) else (none)) = some (ba (elemL l)) := by
  unfold elemL
  rw [ba_size, if_pos (by omega)]
  have hne : l ≠ [] := fun e => by rw [e] at h; simp at h
  obtain ⟨x, y, rfl⟩ := List.exists_cons_of_ne_nil hne
  rw [bt_head]
  by_cases c4 : x = 91
  · rw [if_pos ((u91 x).2 c4), if_pos (by omega), ba_extract, List.take_length, if_pos ⟨h, by rw [c4]; rfl⟩]
  · rw [if_neg (fun e => c4 ((u91 x).1 e)), if_neg (by rintro ⟨_, e⟩; exact c4 (Option.some.inj e))]; rfl

theorem elem_eval (l : List UInt8) : desc_Element.f (ba l) = some (ba (elemL l)) := by
  unfold desc_Element.f
  by_cases h : 1 < l.length
  · rw [if_pos (by rw [ba_size]; omega)]; exact elem_parts l h
  · rw [if_neg (by rw [ba_size]; omega)]
    unfold elemL; rw [if_neg (fun e => h e.1)]; rfl
theorem relem_eval (l : List UInt8) : regletref02_Element.f (ba l) = some (ba (elemL l)) := by
  unfold regletref02_Element.f
  by_cases h : 1 < l.length
  · rw [if_neg (by rw [ba_size]; omega)]; exact elem_parts l h
  · rw [if_pos (by rw [ba_size]; omega)]
    unfold elemL; rw [if_neg (fun e => h e.1)]; rfl

end Go.Proofs.Ytbbogkhidaekoaa.PAll
