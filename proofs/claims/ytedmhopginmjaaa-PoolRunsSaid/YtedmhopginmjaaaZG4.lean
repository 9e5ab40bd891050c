import Derived.Test.YtedmhopginmjaaaZValid
import Derived.Test.YtedmhopginmjaaaZFilled
import Derived.Test.YtedmhopginmjaaaZFilledA
import Derived.Test.YtedmhopginmjaaaZFilled9
import Derived.Test.YtedmhopginmjaaaZFilled10
import Derived.Test.YtedmhopginmjaaaZFilled11
section
namespace Go.Proofs.Ytedmhopginmjaaa.PAll
open Go.RowKit Go.Proofs.YtedmhopginmjaaaW.PrintWords Go.Proofs.YtedmhopginmjaaaW.PrintLast Go.Proofs.YtedmhopginmjaaaW.PrintMore
open Go.Proofs.Ytedmhopginmjaaa.MapInt
set_option linter.unusedVariables false
set_option linter.unusedSimpArgs false
def entOf (x : SR) : S70 := ⟨⟨x.kind, if x.kind = 3 then wrap64 (wrap32 (x.num % 4294967296)) else if x.kind = 5 then wrap64 x.num else 0, if x.kind = 1 then x.text else ⟨#[]⟩, ⟨#[]⟩, ⟨#[]⟩⟩, x.a0, x.a1, x.a2⟩
theorem rd_entOf {L : List SR} {i : Int} (h0 : 0 ≤ i) (h1 : i < L.length) : rd_T70 (L.map entOf) i = entOf (rd62 L i) := by
  unfold rd_T70 rd62
  have : i.toNat < L.length := by omega
  simp [List.getD_eq_getElem?_getD, this]
theorem ofF_text {L : List SR} (i : Int) : ∃ Y, ofF (L.map entOf) i 1 = (Y, (textF L i).2) ∧ ((textF L i).2 = true → Y.f0.f2 = (textF L i).1) := by
  unfold ofF textF
  rw [List.length_map]
  by_cases h1 : i < 1
  · rw [if_pos (.inl h1), if_pos (.inl h1)]; exact ⟨_, rfl, fun h => absurd h (by simp)⟩
  · by_cases h2 : (L.length : Int) ≤ i
    · rw [if_pos (.inr (.inl h2)), if_pos (.inr (.inl h2))]; exact ⟨_, rfl, fun h => absurd h (by simp)⟩
    · rw [rd_entOf (by omega) (by omega)]
      by_cases h3 : (rd62 L i).kind = 1
      · rw [if_neg (fun h => by
          rcases h with h | h | h
          · exact h1 h
          · exact h2 h
          · exact h h3), if_neg (by omega)]
        refine ⟨_, rfl, fun _ => ?_⟩
        show (if (rd62 L i).kind = 1 then (rd62 L i).text else ⟨#[]⟩) = _
        rw [if_pos h3]
      · rw [if_pos (.inr (.inr h3)), if_pos (.inr (.inr h3))]; exact ⟨_, rfl, fun h => absurd h (by simp)⟩
theorem ofF_class {L : List SR} (i : Int) : ∃ Y Y2 o1 o2, ofF (L.map entOf) i 7 = (Y, o1) ∧ ofF (L.map entOf) Y.f1 1 = (Y2, o2) ∧ (classF L i).2 = (o1 && o2) ∧ ((classF L i).2 = true → Y2.f0.f2 = (classF L i).1) := by
  have hz : ∃ Y2 o2, ofF (L.map entOf) entZ.f1 1 = (Y2, o2) := ⟨_, _, rfl⟩
  obtain ⟨Z2, p2, hz⟩ := hz
  have hno : ofF (L.map entOf) i 7 = (entZ, false) → (classF L i).2 = false → ∃ Y Y2 o1 o2, ofF (L.map entOf) i 7 = (Y, o1) ∧ ofF (L.map entOf) Y.f1 1 = (Y2, o2) ∧ (classF L i).2 = (o1 && o2) ∧ ((classF L i).2 = true → Y2.f0.f2 = (classF L i).1) :=
    fun h1 h2 => ⟨entZ, Z2, false, p2, h1, hz, by rw [h2]; rfl, fun h => by rw [h2] at h; cases h⟩
  by_cases h1 : i < 1
  · exact hno (by unfold ofF; rw [if_pos (.inl h1)]) (by unfold classF; rw [if_pos (.inl h1)])
  · by_cases h2 : (L.length : Int) ≤ i
    · exact hno (by unfold ofF; rw [List.length_map, if_pos (.inr (.inl h2))]) (by unfold classF; rw [if_pos (.inr (.inl h2))])
    · by_cases h3 : (rd62 L i).kind = 7
      · obtain ⟨Y2, e1, e2⟩ := ofF_text (L := L) (rd62 L i).a0
        refine ⟨entOf (rd62 L i), Y2, true, (textF L (rd62 L i).a0).2, ?_, e1, ?_, ?_⟩
        · unfold ofF
          rw [List.length_map, rd_entOf (by omega) (by omega), if_neg (fun h => by
            rcases h with h | h | h
            · exact h1 h
            · exact h2 h
            · exact h h3)]
        · unfold classF; rw [if_neg (by omega)]; rfl
        · unfold classF; rw [if_neg (by omega)]; exact e2
      · exact hno (by unfold ofF; rw [List.length_map, rd_entOf (by omega) (by omega), if_pos (.inr (.inr h3))]) (by unfold classF; rw [if_pos (.inr (.inr h3))])
theorem methE_or (l : List UInt8) : methE l = 0 ∨ methE l = 21 := by
  unfold methE mout
  split
  · exact .inr rfl
  · exact .inl rfl
end Go.Proofs.Ytedmhopginmjaaa.PAll
end
section
namespace Go.Proofs.Ytedmhopginmjaaa.PAll
open Go.RowKit Go.Proofs.YtedmhopginmjaaaW.PrintWords Go.Proofs.YtedmhopginmjaaaW.PrintLast Go.Proofs.YtedmhopginmjaaaW.PrintMore
open Go.Proofs.Ytedmhopginmjaaa.MapInt
set_option linter.unusedVariables false
set_option linter.unusedSimpArgs false
theorem rname_s (s : ByteArray) (m : Bool) (h : s.size ≤ 65535) : ∃ k, regletref02_Name.f k s m = some (nmL m (bl s)) := by
  have := rname_eval (bl s) m (by rw [bl_len]; have : (65535 : Nat) ≤ big := by decide
                                  omega) _ (Nat.le_refl _)
  rw [ba_bl] at this; exact ⟨_, this⟩
theorem rtype_s (s : ByteArray) (h : s.size ≤ 65535) : ∃ k, regletref02_Type.f k s = some (typeL (bl s)) := by
  have := rtype_eval (bl s) (by rw [bl_len]; have : (65535 : Nat) ≤ big := by decide
                                omega) _ (Nat.le_refl _)
  rw [ba_bl] at this; exact ⟨_, this⟩
theorem rmeth_s (s : ByteArray) (h : s.size ≤ 65535) : ∃ k a b, regletref02_Method.f k s = some (a, b, methE (bl s)) := by
  obtain ⟨K, hK⟩ := rmeth_eval (bl s) (by rw [bl_len]; have : (65535 : Nat) ≤ big := by decide
                                          omega)
  have := hK K (Nat.le_refl _)
  rw [ba_bl] at this; exact ⟨K, _, _, this⟩
theorem rnamed_s (s : ByteArray) (h : s.size ≤ 65535) : ∃ k, regletref03_Named.f k s = some (namedL (bl s)) := by
  have := rnamed_eval (bl s) (by rw [bl_len]; have : (65535 : Nat) ≤ big := by decide
                                 omega) _ (Nat.le_refl _)
  rw [ba_bl] at this; exact ⟨_, this⟩
def FilRes (w : World) (L : List SR) (x : SR) (e : Ending) (w' : World) : Prop :=
  ∃ c', e = .returned (.tuple #[.agg (conC c'), .int .i64 (madeF validS L x).2]) ∧ ((madeF validS L x).2 = 0 → c' = (madeF validS L x).1) ∧ Below w.heap.size w w'
theorem filled_calls {w : World} {A : Option Addr} {c : Nat} {L : List SR} {x : SR} (hr : Kd.C k70 w A (L.map entOf).length (L.map entOf)) (hc : (L.map entOf).length ≤ c) (hk : kindIn x) (hs : ∀ y ∈ L, y.text.size ≤ 65535) :
    Calls Try.prog 25 #[.slice A (L.map entOf).length c, .agg (entC (entOf x))] w (FilRes w L x) := by
  obtain ⟨k, Xn, Xt, X0, X1, X2⟩ := x
  unfold kindIn at hk
  dsimp only at hk
  have fin : ∀ {e : Ending} {w' : World} {c' : S44} {er : Int} {x : SR}, e = .returned (.tuple #[.agg (conC c'), .int .i64 er]) ∧ Below w.heap.size w w' → (madeF validS L x).2 = er → (er = 0 → c' = (madeF validS L x).1) → FilRes w L x e w' := by
    intro e w' c' er x h1 h2 h3
    exact ⟨c', by rw [h2]; exact h1.1, fun h => h3 (by rw [← h2]; exact h), h1.2⟩
  rcases hk with rfl | rfl | rfl | rfl | rfl | rfl | rfl | rfl
  · exact (fil_c1 hr hc).mono fun e w' h => fin h rfl (fun _ => rfl)
  · exact (fil_c3 hr hc).mono fun e w' h => fin h rfl (fun _ => rfl)
  · exact (fil_c5 hr hc).mono fun e w' h => fin h rfl (fun _ => rfl)
  · obtain ⟨Y, e1, e2⟩ := ofF_text (L := L) X0
    have hp : preF L ⟨7, Xn, Xt, X0, X1, X2⟩ = (⟨7, 0, (textF L X0).1, ⟨#[]⟩, ⟨#[]⟩⟩, (textF L X0).2) := rfl
    by_cases ht : (textF L X0).2 = true
    · rw [ht] at e1
      have hY := e2 ht
      have hsm := textF_small hs X0
      have hm : madeF validS L ⟨7, Xn, Xt, X0, X1, X2⟩ = (⟨7, 0, (textF L X0).1, ⟨#[]⟩, ⟨#[]⟩⟩, if namedL (bl (textF L X0).1) = true then 0 else 20) := by
        unfold madeF; rw [hp, if_pos ht]; rfl
      obtain ⟨K, hK⟩ := rnamed_s (textF L X0).1 hsm
      rw [← hY] at hK hm
      by_cases hn : namedL (bl Y.f0.f2) = true
      · rw [hn] at hK
        exact (fil_c7 hr hc e1 hK).mono fun e w' h => fin h (by rw [hm]; exact if_pos hn) (fun _ => by rw [hm]; rfl)
      · rw [show namedL (bl Y.f0.f2) = false by simpa using hn] at hK
        exact (fil_n7 hr hc e1 hK).mono fun e w' h => fin h (by rw [hm]; exact if_neg hn) (fun h => absurd h (by decide))
    · rw [show (textF L X0).2 = false by simpa using ht] at e1
      have hm : madeF validS L ⟨7, Xn, Xt, X0, X1, X2⟩ = (conZ 0, 12) := by unfold madeF; rw [hp, if_neg ht]
      exact (fil_f7 hr hc e1).mono fun e w' h => fin h (by rw [hm]) (fun h => absurd h (by decide))
  · obtain ⟨Y, e1, e2⟩ := ofF_text (L := L) X0
    have hp : preF L ⟨8, Xn, Xt, X0, X1, X2⟩ = (⟨8, 0, (textF L X0).1, ⟨#[]⟩, ⟨#[]⟩⟩, (textF L X0).2) := rfl
    by_cases ht : (textF L X0).2 = true
    · rw [ht] at e1
      have hY := e2 ht
      have hm : madeF validS L ⟨8, Xn, Xt, X0, X1, X2⟩ = (⟨8, 0, (textF L X0).1, ⟨#[]⟩, ⟨#[]⟩⟩, 0) := by
        unfold madeF; rw [hp, if_pos ht]; rfl
      rw [← hY] at hm
      exact (fil_c8 hr hc e1).mono fun e w' h => fin h (by rw [hm]) (fun _ => by rw [hm]; rfl)
    · rw [show (textF L X0).2 = false by simpa using ht] at e1
      have hm : madeF validS L ⟨8, Xn, Xt, X0, X1, X2⟩ = (conZ 0, 12) := by unfold madeF; rw [hp, if_neg ht]
      exact (fil_f8 hr hc e1).mono fun e w' h => fin h (by rw [hm]) (fun h => absurd h (by decide))
  · obtain ⟨Y1, Y2, o1, o2, a1, a2, a3, a4⟩ := ofF_class (L := L) X0
    obtain ⟨Y3, b1, b2⟩ := ofF_text (L := L) X1
    obtain ⟨Y4, d1, d2⟩ := ofF_text (L := L) X2
    have hp : preF L ⟨9, Xn, Xt, X0, X1, X2⟩ = (⟨9, 0, (classF L X0).1, (textF L X1).1, (textF L X2).1⟩, (classF L X0).2 && (textF L X1).2 && (textF L X2).2) := rfl
    have hno : ((classF L X0).2 && (textF L X1).2 && (textF L X2).2) = false → madeF validS L ⟨9, Xn, Xt, X0, X1, X2⟩ = (conZ 0, 12) := fun h => by unfold madeF; rw [hp, h]; rfl
    rw [a3] at hno
    cases o1 with
    | false => exact (fil_a9 hr hc a1 a2 b1 d1).mono fun e w' h => fin h (by rw [hno rfl]) (fun h => absurd h (by decide))
    | true =>
      cases o2 with
      | false => exact (fil_b9 hr hc a1 a2 b1 d1).mono fun e w' h => fin h (by rw [hno rfl]) (fun h => absurd h (by decide))
      | true =>
        by_cases hb : (textF L X1).2 = true
        · by_cases hd : (textF L X2).2 = true
          · have q2 := a4 (by rw [a3]; rfl)
            have q3 := b2 hb
            have q4 := d2 hd
            rw [hb] at b1
            rw [hd] at d1
            obtain ⟨s1, s2, s3⟩ := preF_small hs (x := ⟨9, 0, ⟨#[]⟩, X0, X1, X2⟩) (show (⟨#[]⟩ : ByteArray).size ≤ 65535 by decide)
            have hp2 : preF L ⟨9, 0, ⟨#[]⟩, X0, X1, X2⟩ = (⟨9, 0, (classF L X0).1, (textF L X1).1, (textF L X2).1⟩, (classF L X0).2 && (textF L X1).2 && (textF L X2).2) := rfl
            rw [hp2] at s1 s2 s3
            dsimp only at s1 s2 s3
            have hm : madeF validS L ⟨9, Xn, Xt, X0, X1, X2⟩ = (⟨9, 0, (classF L X0).1, (textF L X1).1, (textF L X2).1⟩, validS ⟨9, 0, (classF L X0).1, (textF L X1).1, (textF L X2).1⟩) := by
              unfold madeF; rw [hp, a3, hb, hd]; rfl
            rw [← q2, ← q3, ← q4] at hm
            rw [← q2] at s1
            rw [← q3] at s2
            rw [← q4] at s3
            have hv : validS ⟨9, 0, Y2.f0.f2, Y3.f0.f2, Y4.f0.f2⟩ = if (nmL false (bl Y2.f0.f2) && nmL false (bl Y3.f0.f2)) = true then (if typeL (bl Y4.f0.f2) = true then 0 else 21) else 20 := rfl
            rw [hv] at hm
            obtain ⟨k1, n1⟩ := rname_s Y2.f0.f2 false s1
            obtain ⟨k2, n2⟩ := rname_s Y3.f0.f2 false s2
            obtain ⟨k3, ra, rb, m1⟩ := rmeth_s Y4.f0.f2 s3
            cases hn1 : nmL false (bl Y2.f0.f2) with
            | false =>
              rw [hn1] at n1 hm
              exact (fil_n9 hr hc a1 a2 b1 d1 n1).mono fun e w' h => fin h (by rw [hm]; rfl) (fun h => absurd h (by decide))
            | true =>
              rw [hn1] at n1 hm
              cases hn2 : nmL false (bl Y3.f0.f2) with
              | false =>
                rw [hn2] at n2 hm
                exact (fil_m9 hr hc a1 a2 b1 d1 n1 n2).mono fun e w' h => fin h (by rw [hm]; rfl) (fun h => absurd h (by decide))
              | true =>
                rw [hn2] at n2 hm
                obtain ⟨k4, y1⟩ := rtype_s Y4.f0.f2 s3
                cases hy : typeL (bl Y4.f0.f2) with
                | false =>
                  rw [hy] at y1 hm
                  exact (fil_t9 hr hc a1 a2 b1 d1 n1 n2 m1 y1).mono fun e w' h => fin h (by rw [hm]; rfl) (fun h => absurd h (by decide))
                | true =>
                  rw [hy] at y1 hm
                  exact (fil_c9 hr hc a1 a2 b1 d1 n1 n2 m1 y1).mono fun e w' h => fin h (by rw [hm]; rfl) (fun _ => by rw [hm]; rfl)
          · rw [show (textF L X2).2 = false by simpa using hd] at d1 hno
            rw [hb] at b1
            exact (fil_e9 hr hc a1 a2 b1 d1).mono fun e w' h => fin h (by rw [hno (by simp)]) (fun h => absurd h (by decide))
        · rw [show (textF L X1).2 = false by simpa using hb] at b1 hno
          exact (fil_d9 hr hc a1 a2 b1 d1).mono fun e w' h => fin h (by rw [hno (by simp)]) (fun h => absurd h (by decide))
  · obtain ⟨Y1, Y2, o1, o2, a1, a2, a3, a4⟩ := ofF_class (L := L) X0
    obtain ⟨Y3, b1, b2⟩ := ofF_text (L := L) X1
    obtain ⟨Y4, d1, d2⟩ := ofF_text (L := L) X2
    have hp : preF L ⟨10, Xn, Xt, X0, X1, X2⟩ = (⟨10, 0, (classF L X0).1, (textF L X1).1, (textF L X2).1⟩, (classF L X0).2 && (textF L X1).2 && (textF L X2).2) := rfl
    have hno : ((classF L X0).2 && (textF L X1).2 && (textF L X2).2) = false → madeF validS L ⟨10, Xn, Xt, X0, X1, X2⟩ = (conZ 0, 12) := fun h => by unfold madeF; rw [hp, h]; rfl
    rw [a3] at hno
    cases o1 with
    | false => exact (fil_a10 hr hc a1 a2 b1 d1).mono fun e w' h => fin h (by rw [hno rfl]) (fun h => absurd h (by decide))
    | true =>
      cases o2 with
      | false => exact (fil_b10 hr hc a1 a2 b1 d1).mono fun e w' h => fin h (by rw [hno rfl]) (fun h => absurd h (by decide))
      | true =>
        by_cases hb : (textF L X1).2 = true
        · by_cases hd : (textF L X2).2 = true
          · have q2 := a4 (by rw [a3]; rfl)
            have q3 := b2 hb
            have q4 := d2 hd
            rw [hb] at b1
            rw [hd] at d1
            obtain ⟨s1, s2, s3⟩ := preF_small hs (x := ⟨10, 0, ⟨#[]⟩, X0, X1, X2⟩) (show (⟨#[]⟩ : ByteArray).size ≤ 65535 by decide)
            have hp2 : preF L ⟨10, 0, ⟨#[]⟩, X0, X1, X2⟩ = (⟨10, 0, (classF L X0).1, (textF L X1).1, (textF L X2).1⟩, (classF L X0).2 && (textF L X1).2 && (textF L X2).2) := rfl
            rw [hp2] at s1 s2 s3
            dsimp only at s1 s2 s3
            have hm : madeF validS L ⟨10, Xn, Xt, X0, X1, X2⟩ = (⟨10, 0, (classF L X0).1, (textF L X1).1, (textF L X2).1⟩, validS ⟨10, 0, (classF L X0).1, (textF L X1).1, (textF L X2).1⟩) := by
              unfold madeF; rw [hp, a3, hb, hd]; rfl
            rw [← q2, ← q3, ← q4] at hm
            rw [← q2] at s1
            rw [← q3] at s2
            rw [← q4] at s3
            have hv : validS ⟨10, 0, Y2.f0.f2, Y3.f0.f2, Y4.f0.f2⟩ = if (nmL false (bl Y2.f0.f2) && nmL true (bl Y3.f0.f2)) = true then methE (bl Y4.f0.f2) else 20 := rfl
            rw [hv] at hm
            obtain ⟨k1, n1⟩ := rname_s Y2.f0.f2 false s1
            obtain ⟨k2, n2⟩ := rname_s Y3.f0.f2 true s2
            obtain ⟨k3, ra, rb, m1⟩ := rmeth_s Y4.f0.f2 s3
            cases hn1 : nmL false (bl Y2.f0.f2) with
            | false =>
              rw [hn1] at n1 hm
              exact (fil_n10 hr hc a1 a2 b1 d1 n1).mono fun e w' h => fin h (by rw [hm]; rfl) (fun h => absurd h (by decide))
            | true =>
              rw [hn1] at n1 hm
              cases hn2 : nmL true (bl Y3.f0.f2) with
              | false =>
                rw [hn2] at n2 hm
                exact (fil_m10 hr hc a1 a2 b1 d1 n1 n2).mono fun e w' h => fin h (by rw [hm]; rfl) (fun h => absurd h (by decide))
              | true =>
                rw [hn2] at n2 hm
                rcases methE_or (bl Y4.f0.f2) with hy | hy
                · rw [hy] at m1 hm
                  exact (fil_c10 hr hc a1 a2 b1 d1 n1 n2 m1).mono fun e w' h => fin h (by rw [hm]; rfl) (fun _ => by rw [hm]; rfl)
                · rw [hy] at hm
                  exact (fil_t10 hr hc a1 a2 b1 d1 n1 n2 m1 (by rw [hy]; rfl)).mono fun e w' h => fin h (by rw [hm]; rfl) (fun h => absurd h (by decide))
          · rw [show (textF L X2).2 = false by simpa using hd] at d1 hno
            rw [hb] at b1
            exact (fil_e10 hr hc a1 a2 b1 d1).mono fun e w' h => fin h (by rw [hno (by simp)]) (fun h => absurd h (by decide))
        · rw [show (textF L X1).2 = false by simpa using hb] at b1 hno
          exact (fil_d10 hr hc a1 a2 b1 d1).mono fun e w' h => fin h (by rw [hno (by simp)]) (fun h => absurd h (by decide))
  · obtain ⟨Y1, Y2, o1, o2, a1, a2, a3, a4⟩ := ofF_class (L := L) X0
    obtain ⟨Y3, b1, b2⟩ := ofF_text (L := L) X1
    obtain ⟨Y4, d1, d2⟩ := ofF_text (L := L) X2
    have hp : preF L ⟨11, Xn, Xt, X0, X1, X2⟩ = (⟨11, 0, (classF L X0).1, (textF L X1).1, (textF L X2).1⟩, (classF L X0).2 && (textF L X1).2 && (textF L X2).2) := rfl
    have hno : ((classF L X0).2 && (textF L X1).2 && (textF L X2).2) = false → madeF validS L ⟨11, Xn, Xt, X0, X1, X2⟩ = (conZ 0, 12) := fun h => by unfold madeF; rw [hp, h]; rfl
    rw [a3] at hno
    cases o1 with
    | false => exact (fil_a11 hr hc a1 a2 b1 d1).mono fun e w' h => fin h (by rw [hno rfl]) (fun h => absurd h (by decide))
    | true =>
      cases o2 with
      | false => exact (fil_b11 hr hc a1 a2 b1 d1).mono fun e w' h => fin h (by rw [hno rfl]) (fun h => absurd h (by decide))
      | true =>
        by_cases hb : (textF L X1).2 = true
        · by_cases hd : (textF L X2).2 = true
          · have q2 := a4 (by rw [a3]; rfl)
            have q3 := b2 hb
            have q4 := d2 hd
            rw [hb] at b1
            rw [hd] at d1
            obtain ⟨s1, s2, s3⟩ := preF_small hs (x := ⟨11, 0, ⟨#[]⟩, X0, X1, X2⟩) (show (⟨#[]⟩ : ByteArray).size ≤ 65535 by decide)
            have hp2 : preF L ⟨11, 0, ⟨#[]⟩, X0, X1, X2⟩ = (⟨11, 0, (classF L X0).1, (textF L X1).1, (textF L X2).1⟩, (classF L X0).2 && (textF L X1).2 && (textF L X2).2) := rfl
            rw [hp2] at s1 s2 s3
            dsimp only at s1 s2 s3
            have hm : madeF validS L ⟨11, Xn, Xt, X0, X1, X2⟩ = (⟨11, 0, (classF L X0).1, (textF L X1).1, (textF L X2).1⟩, validS ⟨11, 0, (classF L X0).1, (textF L X1).1, (textF L X2).1⟩) := by
              unfold madeF; rw [hp, a3, hb, hd]; rfl
            rw [← q2, ← q3, ← q4] at hm
            rw [← q2] at s1
            rw [← q3] at s2
            rw [← q4] at s3
            have hv : validS ⟨11, 0, Y2.f0.f2, Y3.f0.f2, Y4.f0.f2⟩ = if (nmL false (bl Y2.f0.f2) && nmL true (bl Y3.f0.f2)) = true then methE (bl Y4.f0.f2) else 20 := rfl
            rw [hv] at hm
            obtain ⟨k1, n1⟩ := rname_s Y2.f0.f2 false s1
            obtain ⟨k2, n2⟩ := rname_s Y3.f0.f2 true s2
            obtain ⟨k3, ra, rb, m1⟩ := rmeth_s Y4.f0.f2 s3
            cases hn1 : nmL false (bl Y2.f0.f2) with
            | false =>
              rw [hn1] at n1 hm
              exact (fil_n11 hr hc a1 a2 b1 d1 n1).mono fun e w' h => fin h (by rw [hm]; rfl) (fun h => absurd h (by decide))
            | true =>
              rw [hn1] at n1 hm
              cases hn2 : nmL true (bl Y3.f0.f2) with
              | false =>
                rw [hn2] at n2 hm
                exact (fil_m11 hr hc a1 a2 b1 d1 n1 n2).mono fun e w' h => fin h (by rw [hm]; rfl) (fun h => absurd h (by decide))
              | true =>
                rw [hn2] at n2 hm
                rcases methE_or (bl Y4.f0.f2) with hy | hy
                · rw [hy] at m1 hm
                  exact (fil_c11 hr hc a1 a2 b1 d1 n1 n2 m1).mono fun e w' h => fin h (by rw [hm]; rfl) (fun _ => by rw [hm]; rfl)
                · rw [hy] at hm
                  exact (fil_t11 hr hc a1 a2 b1 d1 n1 n2 m1 (by rw [hy]; rfl)).mono fun e w' h => fin h (by rw [hm]; rfl) (fun h => absurd h (by decide))
          · rw [show (textF L X2).2 = false by simpa using hd] at d1 hno
            rw [hb] at b1
            exact (fil_e11 hr hc a1 a2 b1 d1).mono fun e w' h => fin h (by rw [hno (by simp)]) (fun h => absurd h (by decide))
        · rw [show (textF L X1).2 = false by simpa using hb] at b1 hno
          exact (fil_d11 hr hc a1 a2 b1 d1).mono fun e w' h => fin h (by rw [hno (by simp)]) (fun h => absurd h (by decide))
end Go.Proofs.Ytedmhopginmjaaa.PAll
end
