import Derived.Test.YtedmhopginmjaaaZMade
section
namespace Go.Proofs.Ytedmhopginmjaaa.PAll
open Go.RowKit Go.Proofs.YtedmhopginmjaaaW.PrintWords Go.Proofs.YtedmhopginmjaaaW.PrintLast Go.Proofs.YtedmhopginmjaaaW.PrintMore
open Go.Proofs.Ytedmhopginmjaaa.MapInt
set_option linter.unusedVariables false
set_option linter.unusedSimpArgs false
def conC (x : S44) : Array Value := #[.int .i64 x.f0, .int .i64 x.f1, .string x.f2, .string x.f3, .string x.f4]
theorem conC_one (x : S44) : (conC x).all (·.oneCell') = true := by simp [conC, Value.oneCell']
theorem infoC : (Try.prog.info? 44).map (·.size) = some 5 := by kernel_rfl
theorem oiI64 : (Try.prog.info? 2).map (·.size) = some 1 := by kernel_rfl
def conZ (k : Int) : S44 := ⟨k, 0, ⟨#[]⟩, ⟨#[]⟩, ⟨#[]⟩⟩
structure MS (w wx : World) (b4 b6 b7 : Nat) (c4 : Array Value) (x : SR) (c7 : S44) : Prop where
  bel : Below w.heap.size w wx
  k4 : Blk wx b4 44 c4
  k6 : Blk wx b6 62 (rawC x)
  k7 : Blk wx b7 44 (conC c7)
  n4 : w.heap.size ≤ b4
  n6 : w.heap.size ≤ b6
  n7 : w.heap.size ≤ b7
  ne : b4 ≠ b7
section
variable {w wx w2 : World} {b4 b6 b7 : Nat} {c4 c5 : Array Value} {x y : SR} {c7 d7 : S44}
theorem MS.put7 (h : MS w wx b4 b6 b7 c4 x c7) (hb : Blk w2 b7 44 (conC d7)) (hg : wx.grownBy w2 (some b7)) : MS w w2 b4 b6 b7 c4 x d7 :=
  ⟨h.bel.grown hg h.bel.size (fun k hk => by cases hk; exact h.n7), h.k4.kept hg (fun e => h.ne (by injection e)), h.k6.kept hg (fun e => by injection e with e; exact h.k6.ne_type h.k7 (by decide) e), hb, h.n4, h.n6, h.n7, h.ne⟩
theorem MS.put4 (h : MS w wx b4 b6 b7 c4 x c7) (hb : Blk w2 b4 44 c5) (hg : wx.grownBy w2 (some b4)) : MS w w2 b4 b6 b7 c5 x c7 :=
  ⟨h.bel.grown hg h.bel.size (fun k hk => by cases hk; exact h.n4), hb, h.k6.kept hg (fun e => by injection e with e; exact h.k6.ne_type h.k4 (by decide) e), h.k7.kept hg (fun e => h.ne (by injection e with e; exact e.symm)), h.n4, h.n6, h.n7, h.ne⟩
theorem MS.below (h : MS w wx b4 b6 b7 c4 x c7) (hb : Below wx.heap.size wx w2) : MS w w2 b4 b6 b7 c4 x c7 :=
  ⟨below_step h.bel hb, h.k4.below hb, h.k6.below hb, h.k7.below hb, h.n4, h.n6, h.n7, h.ne⟩
end
end Go.Proofs.Ytedmhopginmjaaa.PAll
end
section
namespace Go.Proofs.Ytedmhopginmjaaa.PAll
open Go.RowKit
set_option linter.unusedVariables false
set_option linter.unusedSimpArgs false
def preF (l : List SR) (x : SR) : S44 × Bool :=
  if x.kind = 1 then (⟨1, 0, x.text, ⟨#[]⟩, ⟨#[]⟩⟩, true)
  else if x.kind = 3 then (⟨3, wrap64 (wrap32 (x.num % 4294967296)), ⟨#[]⟩, ⟨#[]⟩, ⟨#[]⟩⟩, true)
  else if x.kind = 5 then (⟨5, wrap64 x.num, ⟨#[]⟩, ⟨#[]⟩, ⟨#[]⟩⟩, true)
  else if x.kind = 7 ∨ x.kind = 8 then (⟨x.kind, 0, (textF l x.a0).1, ⟨#[]⟩, ⟨#[]⟩⟩, (textF l x.a0).2)
  else (⟨x.kind, 0, (classF l x.a0).1, (textF l x.a1).1, (textF l x.a2).1⟩, (classF l x.a0).2 && (textF l x.a1).2 && (textF l x.a2).2)
def madeF (vv : S44 → Int) (l : List SR) (x : SR) : S44 × Int := if (preF l x).2 = true then ((preF l x).1, vv (preF l x).1) else (conZ 0, 12)
def rawsF : Nat → List Int → Bool → Int × List SR × List Int × Bool
  | 0, l, bad => (0, [], l, bad)
  | m + 1, l, bad =>
    if (oneF l bad).2.2.2 = true then (11, [], (oneF l bad).2.2)
    else if (oneF l bad).2.1 = false then (12, [], (oneF l bad).2.2)
    else ((rawsF m (oneF l bad).2.2.1 (oneF l bad).2.2.2).1, (oneF l bad).1 :: (rawsF m (oneF l bad).2.2.1 (oneF l bad).2.2.2).2.1, (rawsF m (oneF l bad).2.2.1 (oneF l bad).2.2.2).2.2)
def consF (vv : S44 → Int) (L : List SR) : List SR → Int × List S44
  | [] => (0, [])
  | x :: xs => if (madeF vv L x).2 ≠ 0 then ((madeF vv L x).2, []) else ((consF vv L xs).1, (madeF vv L x).1 :: (consF vv L xs).2)
def readF (vv : S44 → Int) (l : List Int) (bad : Bool) : Int × List S44 × List Int × Bool :=
  let k := numF l bad 2
  if k.2.2 = true then (11, [], k.2)
  else if k.1 < 1 ∨ 1000 < k.1 then (12, [], k.2)
  else
    let r := rawsF (k.1.toNat - 1) k.2.1 k.2.2
    if r.1 ≠ 0 then (r.1, [], r.2.2)
    else
      let c := consF vv (rawZ 0 :: r.2.1) r.2.1
      if c.1 ≠ 0 then (c.1, [], r.2.2) else (0, conZ 0 :: c.2, r.2.2)
theorem rawsF_len : ∀ (m : Nat) (l : List Int) (bad : Bool), (rawsF m l bad).1 = 0 → (rawsF m l bad).2.1.length = m
  | 0, l, bad, _ => rfl
  | m + 1, l, bad, h => by
    unfold rawsF at h ⊢
    split at h
    · exact absurd h (by simp)
    · split at h
      · exact absurd h (by simp)
      · rename_i h1 h2
        rw [if_neg h1, if_neg h2]
        simp only [List.length_cons]
        rw [rawsF_len m _ _ h]
def kindIn (x : SR) : Prop := x.kind = 1 ∨ x.kind = 3 ∨ x.kind = 5 ∨ x.kind = 7 ∨ x.kind = 8 ∨ x.kind = 9 ∨ x.kind = 10 ∨ x.kind = 11
theorem oneF_kind {l : List Int} {bad : Bool} (h : (oneF l bad).2.1 = true) : kindIn (oneF l bad).1 := by
  unfold oneF at h ⊢
  dsimp only at h ⊢
  unfold kindIn
  split
  · exact .inl rfl
  · rename_i h1
    split
    · exact .inr (.inl rfl)
    · rename_i h3
      split
      · exact .inr (.inr (.inl rfl))
      · rename_i h5
        split
        · rename_i h7; dsimp only; omega
        · rename_i h7
          split
          · rename_i h9; dsimp only; omega
          · rename_i h9
            rw [if_neg h1, if_neg h3, if_neg h5, if_neg h7, if_neg h9] at h
            exact absurd h (by simp)
theorem takeF_size (l : List Int) (bad : Bool) (n : Int) : ((takeF l bad n).1.size : Int) ≤ max n 0 := by
  unfold takeF
  split
  · show ((0 : Nat) : Int) ≤ max n 0; omega
  · rw [strOfNums_size, List.length_take]; omega
theorem oneF_text (l : List Int) (bad : Bool) (h : ∀ x ∈ l, 0 ≤ x ∧ x < 256) : (oneF l bad).1.text.size ≤ 65535 := by
  have hz : (⟨#[]⟩ : ByteArray).size ≤ 65535 := by decide
  unfold oneF
  dsimp only
  split
  · rcases h1 : numF l bad 1 with ⟨K, L1, B1⟩
    have hu := numF_u8 h h1
    rcases h2 : numF L1 B1 2 with ⟨N, L2, B2⟩
    have hN := numF_in 2 hu h2
    have := takeF_size L2 B2 N
    dsimp only
    omega
  · split
    · exact hz
    · split
      · exact hz
      · split
        · exact hz
        · split
          · exact hz
          · exact hz
theorem textF_small {L : List SR} (h : ∀ y ∈ L, y.text.size ≤ 65535) (i : Int) : (textF L i).1.size ≤ 65535 := by
  have hz : (⟨#[]⟩ : ByteArray).size ≤ 65535 := by decide
  unfold textF
  split
  · exact hz
  · rename_i h1
    refine h _ ?_
    unfold rd62
    rw [List.getD_eq_getElem?_getD, List.getElem?_eq_getElem (by omega)]
    exact List.getElem_mem _
theorem preF_small {L : List SR} (h : ∀ y ∈ L, y.text.size ≤ 65535) {x : SR} (hx : x.text.size ≤ 65535) : (preF L x).1.f2.size ≤ 65535 ∧ (preF L x).1.f3.size ≤ 65535 ∧ (preF L x).1.f4.size ≤ 65535 := by
  have hz : (⟨#[]⟩ : ByteArray).size ≤ 65535 := by decide
  have hc : ∀ i, (classF L i).1.size ≤ 65535 := fun i => by
    unfold classF
    split
    · exact hz
    · exact textF_small h _
  unfold preF
  split
  · exact ⟨hx, hz, hz⟩
  · split
    · exact ⟨hz, hz, hz⟩
    · split
      · exact ⟨hz, hz, hz⟩
      · split
        · exact ⟨textF_small h _, hz, hz⟩
        · exact ⟨hc _, textF_small h _, textF_small h _⟩
end Go.Proofs.Ytedmhopginmjaaa.PAll
end
