import Derived.Test.YtedmhopginmjaaaZG5
namespace Go.Proofs.Ytedmhopginmjaaa.PAll
open Go.RowKit Go.Proofs.YtedmhopginmjaaaW.PrintWords Go.Proofs.YtedmhopginmjaaaW.PrintLast Go.Proofs.YtedmhopginmjaaaW.PrintMore
open Go.Proofs.Ytedmhopginmjaaa.MapInt
set_option linter.unusedVariables false
set_option linter.unusedSimpArgs false
theorem conM (w : World) (base : Nat) (ok : Nat → Prop) (x : S44) : k44.M w base ok x (conC x).toList := k44_mkM w base ok x
section
variable {ops : Array Oper} {rest : List Oper} {o : Oper} {a : Act} {Q : Exit → Act → World → Prop} {W : World} {base gb n cap o' : Nat}
theorem store62 (hN : o.dst = none) (hgd : o.guard = none) (p y : Operand) (hop : o.op = .store 62 p y) {xs : List SR} (i : Nat) (x : SR) (haddr : a.eval p = .pointer (some ⟨gb, o', none⟩)) (hoff : o' = i * 6) (hx : a.eval y = .agg (rawC x))
    (HO : Kd.R k62 62 W base (fun _ => True) (.slice (some ⟨gb, 0, none⟩) n cap) xs) (hi : i < n)
    (hK : ∀ w1, Kd.R k62 62 w1 base (fun _ => True) (.slice (some ⟨gb, 0, none⟩) n cap) (xs.set i x) → W.grownBy w1 (some gb) → wpList Try.prog ops Q rest a w1) : wpList Try.prog ops Q (o :: rest) a W := by
  obtain ⟨c, hcl, hM, hcc, _⟩ := Kd.R_elem HO (rawZ 0) (i : Int) (by omega) (by omega)
  obtain rfl := k62_openM hM
  refine Kd.R_store k62 (w0 := W) base hN hgd 62 p y hop 62 (i : Int) 0 xs x (.agg (rawC x)) (rawC x).toList _ (fun _ => True) (fun _ => False) haddr (by rw [Int.toNat_natCast, hoff]; rfl) hx rfl info62 (fun q hq => ?_) HO (by omega) (by omega) hcl hcc (by show 0 + 6 ≤ 6; omega) ?_ (fun _ h => h.elim) (Below.refl _ _) (fun w1 h1 _ h2 => hK w1 (by rw [Int.toNat_natCast] at h1; exact h1) h2)
  · simp [rawC] at hq; rcases hq with rfl | rfl | rfl | rfl | rfl | rfl <;> rfl
  · exact k62_mkM _ _ _ _
theorem storeC (hN : o.dst = none) (hgd : o.guard = none) (p y : Operand) (hop : o.op = .store 44 p y) {xs : List S44} (i : Nat) (x : S44) (haddr : a.eval p = .pointer (some ⟨gb, o', none⟩)) (hoff : o' = i * 5) (hx : a.eval y = .agg (conC x))
    (HO : Kd.R k44 44 W base (fun _ => True) (.slice (some ⟨gb, 0, none⟩) n cap) xs) (hi : i < n)
    (hK : ∀ w1, Kd.R k44 44 w1 base (fun _ => True) (.slice (some ⟨gb, 0, none⟩) n cap) (xs.set i x) → W.grownBy w1 (some gb) → wpList Try.prog ops Q rest a w1) : wpList Try.prog ops Q (o :: rest) a W := by
  obtain ⟨c, hcl, hM, hcc, _⟩ := Kd.R_elem HO (conZ 0) (i : Int) (by omega) (by omega)
  obtain rfl := k44_openM hM
  refine Kd.R_store k44 (w0 := W) base hN hgd 44 p y hop 44 (i : Int) 0 xs x (.agg (conC x)) (conC x).toList _ (fun _ => True) (fun _ => False) haddr (by rw [Int.toNat_natCast, hoff]; rfl) hx rfl infoC (fun q hq => ?_) HO (by omega) (by omega) hcl hcc (by show 0 + 5 ≤ 5; omega) ?_ (fun _ h => h.elim) (Below.refl _ _) (fun w1 h1 _ h2 => hK w1 (by rw [Int.toNat_natCast] at h1; exact h1) h2)
  · simp [conC] at hq; rcases hq with rfl | rfl | rfl | rfl | rfl <;> rfl
  · exact conM _ _ _ _
end
theorem set_mid {α : Type} (a : List α) (m : Nat) (z x : α) (i : Nat) (hi : i = a.length) (hm : 0 < m) : (a ++ List.replicate m z).set i x = (a ++ [x]) ++ List.replicate (m - 1) z := by
  subst hi
  obtain ⟨m, rfl⟩ : ∃ k, m = k + 1 := ⟨m - 1, by omega⟩
  rw [List.set_append_right _ _ (Nat.le_refl _), Nat.sub_self, List.replicate_succ]
  simp
end Go.Proofs.Ytedmhopginmjaaa.PAll
