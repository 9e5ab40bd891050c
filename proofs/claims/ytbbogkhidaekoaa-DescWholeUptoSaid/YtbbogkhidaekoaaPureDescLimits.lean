/- For all texts and numbers: twenty parameters of a type are taken, one more isn't; names of sixty bytes are, longer ones aren't. No condition. -/
import Derived.Test.YtbbogkhidaekoaaPAllx9
import Derived.Test.YtbbogkhidaekoaaPureDescArrays
namespace Go.Proofs.Ytbbogkhidaekoaa.PAll
open Go.RowKit Go.Proofs.YtbbogkhidaekoaaW.PrintWords

theorem repL_succ (l : List UInt8) (n : Nat) : Lib.repeatL l (n + 1) = l ++ Lib.repeatL l n := rfl
theorem repL_len (l : List UInt8) (n : Nat) : (Lib.repeatL l n).length = l.length * n := by
  induction n with
  | zero => rfl
  | succ n ih => rw [repL_succ, List.length_append, ih, Nat.mul_succ, Nat.add_comm]

theorem type_first {l : List UInt8} (h : typeL l = true) : ∃ c t, l = c :: t ∧ c ≠ 41 := by
  obtain ⟨h1, h2, h3⟩ := type_ne h
  obtain ⟨p1, p2, p3, p4⟩ := takeL_parts h3
  obtain ⟨c, t, rfl⟩ := List.exists_cons_of_ne_nil h1
  refine ⟨c, t, rfl, fun e => ?_⟩
  subst e
  have e : brk ((41 : UInt8) :: t) = 0 := rfl
  rw [e, List.drop_zero, tbody_cons, if_neg (by decide), if_neg (by decide)] at p2
  exact p2 rfl

/-- n times a type, a bracket, a type. -/
theorem meth_rep {l : List UInt8} (h : typeL l = true) (j : Nat) : ∀ (m : Nat) (acc : List (List UInt8)), j < m → acc.length ≤ 20 →
    methL m (Lib.repeatL l j ++ 41 :: l) acc = if acc.length + j ≤ 20 then some (acc ++ List.replicate j l, l) else none := by
  obtain ⟨h1, h2, h3⟩ := type_ne h
  induction j with
  | zero =>
    intro m acc hm ha
    obtain ⟨m, rfl⟩ : ∃ x, m = x + 1 := ⟨m - 1, by omega⟩
    have e : Lib.repeatL l 0 ++ 41 :: l = 41 :: l := rfl
    rw [e, methL_cons, if_pos rfl, if_pos (.inr h), if_pos (by omega), List.replicate_zero, List.append_nil]
  | succ j ih =>
    intro m acc hm ha
    obtain ⟨m, rfl⟩ : ∃ x, m = x + 1 := ⟨m - 1, by omega⟩
    obtain ⟨c, t, e, hc⟩ := type_first h
    have el : Lib.repeatL l (j + 1) ++ 41 :: l = l ++ (Lib.repeatL l j ++ 41 :: l) := by rw [repL_succ, List.append_assoc]
    have ec : l ++ (Lib.repeatL l j ++ 41 :: l) = c :: (t ++ (Lib.repeatL l j ++ 41 :: l)) := by rw [e, List.cons_append]
    have et : takeL (l ++ (Lib.repeatL l j ++ 41 :: l)) = l.length := by rw [takeL_app h3, h2]
    rw [el, ec, methL_cons, if_neg hc, ← ec, et]
    have hl0 : l.length ≠ 0 := by rw [← h2]; exact h3
    by_cases h20 : acc.length = 20
    · rw [if_pos (.inr h20), if_neg (by omega)]
    · rw [if_neg (by rintro (a | a); exact hl0 a; exact h20 a), List.drop_left, List.take_left, ih m _ (by omega) (by simp; omega)]
      have e1 : (acc ++ [l]).length + j = acc.length + (j + 1) := by simp; omega
      have e2 : acc ++ [l] ++ List.replicate j l = acc ++ List.replicate (j + 1) l := by rw [List.replicate_succ]; simp
      rw [e1, e2]

theorem meth_all_rep {l : List UInt8} (h : typeL l = true) (j : Nat) : methAll (40 :: (Lib.repeatL l j ++ 41 :: l)) = if j ≤ 20 then some (List.replicate j l, l) else none := by
  show (if (40 : UInt8) = 40 then methL ((Lib.repeatL l j ++ 41 :: l).length + 1) (Lib.repeatL l j ++ 41 :: l) [] else none) = _
  obtain ⟨h1, _, _⟩ := type_ne h
  have hpos : 0 < l.length := by
    rcases Nat.eq_zero_or_pos l.length with h | h
    · exact absurd (List.length_eq_zero_iff.1 h) h1
    · exact h
  have hj : j ≤ l.length * j := Nat.le_mul_of_pos_left j hpos
  rw [if_pos rfl, meth_rep h j _ _ (by rw [List.length_append, repL_len]; omega) (Nat.zero_le _)]
  simp

theorem type_short {l : List UInt8} (h : typeL l = true) : l.length ≤ 70 := by
  obtain ⟨h1, h2, h3⟩ := type_ne h
  obtain ⟨p1, p2, p3, p4⟩ := takeL_parts h3
  have hb : ∀ d : List UInt8, tbody d ≤ 62 := by
    intro d
    cases d with
    | nil => exact Nat.zero_le _
    | cons c t =>
      rw [tbody_cons]
      split
      · decide
      · split
        · split
          · split
            · rename_i h4
              unfold nmL at h4
              rw [Bool.and_eq_true, decide_eq_true_eq, List.length_take] at h4
              omega
            · exact Nat.zero_le _
          · exact Nat.zero_le _
        · exact Nat.zero_le _
  have := hb (l.drop (brk l))
  omega

theorem rep_x (n : Nat) : Lib.repeatL [120] n = List.replicate n 120 := by
  induction n with
  | zero => rfl
  | succ n ih => rw [repL_succ, ih, List.replicate_succ]; rfl

theorem nm_x (n : Nat) (hn : 1 ≤ n) : nmL false (List.replicate n 120) = decide (n ≤ 60) := by
  have h : (List.replicate n (120 : UInt8)).all (fun b => nmCh false b.toNat) = true := by
    rw [List.all_eq_true]
    intro x hx
    rw [(List.mem_replicate.1 hx).2]; decide
  unfold nmL
  rw [h, List.length_replicate, Bool.and_true, decide_eq_decide]; omega

theorem type_x (n : Nat) (hn : 1 ≤ n) : typeL (76 :: (List.replicate n 120 ++ [59])) = decide (n ≤ 60) := by
  by_cases h : n ≤ 60
  · rw [decide_eq_true h]; exact type_name (by rw [nm_x n hn, decide_eq_true h])
  · rw [decide_eq_false h]
    have hno : ∀ c ∈ List.replicate n (120 : UInt8), c ≠ 59 := fun c hc => by rw [(List.mem_replicate.1 hc).2]; decide
    have hs := semi_of_no hno []
    have hb : tbody (76 :: (List.replicate n 120 ++ [59])) = 0 := by
      rw [tbody_cons, if_neg (by decide), if_pos rfl, hs, if_pos (by simp), List.take_left, nm_x n hn, decide_eq_false h, if_neg (by decide)]
    unfold typeL takeL
    have e : brk (76 :: (List.replicate n 120 ++ [59])) = 0 := rfl
    rw [e, if_neg (by decide), List.drop_zero, hb, if_pos rfl, decide_eq_false]
    rintro ⟨_, e⟩; simp at e

end Go.Proofs.Ytbbogkhidaekoaa.PAll
namespace Go.Proofs.Ytbbogkhidaekoaa.Pure
open Go.RowKit Go.Proofs.Ytbbogkhidaekoaa.PAll Go.Proofs.YtbbogkhidaekoaaW.PrintWords Go.Proofs.YtbbogkhidaekoaaW.PrintLast

theorem DescLimits : regletlaw02_DescLimits.Pure := by
  intro s z hs hz
  obtain ⟨l, rfl⟩ := ba_ex s
  rw [ba_size] at hs
  have hl : l.length ≤ big := by unfold big; omega
  refine ⟨2 * l.length + 40000, ?_⟩
  unfold regletlaw02_DescLimits.f
  rw [holds_some _ (by omega), Option.bind_some, if_pos rfl, type_eval l hl _ (by omega), Option.bind_some]
  by_cases ht : typeL l = true
  · rw [if_pos ht]
    have hsh := type_short ht
    obtain ⟨n, hn, hn40⟩ : ∃ n : Nat, Int.tmod (wrap64 (Int.tmod z 40 + 40)) 40 = (n : Int) ∧ n < 40 := by
      have h1 : -40 < Int.tmod z 40 ∧ Int.tmod z 40 < 40 := by
        constructor
        · have := Int.lt_tmod_of_pos z (show (0 : Int) < 40 by decide); omega
        · exact Int.tmod_lt_of_pos z (by decide)
      have hw : wrap64 (Int.tmod z 40 + 40) = Int.tmod z 40 + 40 := by unfold wrap64; omega
      rw [hw, Int.tmod_eq_emod_of_nonneg (by omega)]
      exact ⟨((Int.tmod z 40 + 40) % 40).toNat, by omega, by omega⟩
    rw [hn]
    have hmul : l.length * n ≤ 70 * 40 := Nat.mul_le_mul hsh (by omega)
    have hrep : strings_Repeat.f (ba l) (n : Int) = some (ba (Lib.repeatL l n)) := by
      unfold strings_Repeat.f
      rw [if_pos (by omega), if_pos (by omega), Int.toNat_natCast, if_pos (by rw [ba_size]; omega)]; rfl
    have hrl := repL_len l n
    have a1 : (⟨#[40]⟩ : ByteArray) ++ ba (Lib.repeatL l n) = ba (40 :: Lib.repeatL l n) := ba_append [40] _
    have a2 : ba (40 :: Lib.repeatL l n) ++ (⟨#[41]⟩ : ByteArray) = ba (40 :: Lib.repeatL l n ++ [41]) := ba_append _ [41]
    have a3 : ba (40 :: Lib.repeatL l n ++ [41]) ++ ba l = ba (40 :: (Lib.repeatL l n ++ 41 :: l)) := by rw [ba_append]; simp
    have hlen : (40 :: (Lib.repeatL l n ++ 41 :: l)).length ≤ 3000 := by simp only [List.length_cons, List.length_append]; omega
    rw [hrep, Option.bind_some, a1, ba_size, if_pos (by omega), ba_size, if_pos (by simp only [List.length_cons]; omega), a2, ba_size, if_pos (by rw [ba_size]; simp only [List.length_cons, List.length_append, List.length_nil]; omega), a3,
      meth_eval _ (by unfold big; omega) _ (by omega), Option.bind_some, meth_all_rep ht]
    by_cases h20 : n ≤ 20
    · rw [if_pos h20, if_neg (by omega)]
      have hw : wrap64 (41 + (n : Int)) = ((41 + n : Nat) : Int) := by unfold wrap64; omega
      have hx : strings_Repeat.f (⟨#[120]⟩ : ByteArray) ((41 + n : Nat) : Int) = some (ba (List.replicate (41 + n) 120)) := by
        unfold strings_Repeat.f
        rw [if_pos (by omega), if_pos (by omega), Int.toNat_natCast, if_pos (by show 1 * (41 + n) ≤ _; omega)]
        rw [← rep_x]; rfl
      have b1 : (⟨#[76]⟩ : ByteArray) ++ ba (List.replicate (41 + n) 120) = ba (76 :: List.replicate (41 + n) 120) := ba_append [76] _
      have b2 : ba (76 :: List.replicate (41 + n) 120) ++ (⟨#[59]⟩ : ByteArray) = ba (76 :: (List.replicate (41 + n) 120 ++ [59])) := by rw [show (⟨#[59]⟩ : ByteArray) = ba [59] from rfl, ba_append, List.cons_append]
      have hd : decide (((ba (List.replicate (41 + n) 120)).size : Int) ≤ 60) = decide (41 + n ≤ 60) := by rw [ba_size, List.length_replicate, decide_eq_decide]; omega
      rw [hw, hx, Option.bind_some]
      simp only [mout]
      rw [if_pos trivial, if_pos (by rw [List.length_map, List.length_replicate]), if_pos trivial, name_eval _ _ (by rw [List.length_replicate]; unfold big; omega), Option.bind_some, nm_x _ (by omega), hd, if_pos (by simp), ba_size,
        List.length_replicate, if_pos (by omega), b1, ba_size, if_pos (by rw [List.length_cons, List.length_replicate]; omega), b2, type_eval _ (by simp; unfold big; omega) _ (by simp; omega), Option.bind_some, type_x _ (by omega)]
      simp
    · rw [if_neg h20, if_pos (by omega)]
      simp only [mout]
      rw [if_pos trivial, ba_toList]; rfl
  · rw [if_neg ht]

end Go.Proofs.Ytbbogkhidaekoaa.Pure
