/-
  Encode, whole: what the program and the document answer, as one function of lists; and what Decode's answers are made of.
-/
import Derived.Test.YtbicilgcmopidaaEncode
namespace Go.Proofs.Ytbicilgcmopidaa.PAll
open Go.RowKit Go.Proofs.YtbicilgcmopidaaW.PrintWords Go.Proofs.YtbicilgcmopidaaW.PrintLast Go.Proofs.YtbicilgcmopidaaW.PrintMore

theorem rd36 (l : List S36) (i : Nat) (h : i < l.length) : rd_T36 l (i : Int) = l[i] := by
  unfold rd_T36; simp [List.getD_eq_getElem?_getD, h]

theorem drop_rd (l : List S36) (i : Nat) (h : i < l.length) : l.drop i = rd_T36 l (i : Int) :: l.drop (i + 1) := by
  rw [rd36 l i h]; exact List.drop_eq_getElem_cons h

/-- What Decode answers. -/
def decR (b : List Int) : List S36 × Int := (code_Decode.f 25000 b).getD ([], 0)
theorem decR_some (b : List Int) (hb : Bytes b) (k : Nat) (hk : 25000 ≤ k) : code_Decode.f k b = some (decR b) ∧ regletref06_Decode.f k b = some (decR b) ∧ (decR b).1.length ≤ 4000 := by
  obtain ⟨R, h1, _, h3⟩ := decode_same b hb 25000 (Nat.le_refl _)
  obtain ⟨R', h1', h2', _⟩ := decode_same b hb k hk
  have e : R' = R := by
    have := mono_le (f := fun k => code_Decode.f k b) (fun k => code_Decode.mono b k) hk h1
    rw [h1'] at this; exact Option.some.inj this
  subst e
  have : decR b = R' := by unfold decR; rw [h1]; rfl
  rw [this]; exact ⟨h1', h2', h3⟩

/-- The end of Encode. -/
def fin (x0 : List S36) (b : List Int) : List Int × Int := if (decR b).2 = 0 ∧ (decR b).1 = x0 then (b, 0) else ([], 1)

theorem enc_cmp (x0 : List S36) (b : List Int) (xs : List S36) (hl : xs.length = x0.length) (hx : xs.length ≤ 100000) (d : Nat) : ∀ (i k : Nat), i + d = xs.length → d < k →
    code_Encode.l1 k x0 b xs (xs.length : Int) i = some (if xs.drop i = x0.drop i then (b, 0) else ([], 1)) := by
  induction d with
  | zero =>
    intro i k hi hk
    obtain ⟨k, rfl⟩ : ∃ m, k = m + 1 := ⟨k - 1, by omega⟩
    simp only [code_Encode.l1]
    rw [if_neg (by omega), List.drop_eq_nil_of_le (by omega), List.drop_eq_nil_of_le (by omega), if_pos rfl]
  | succ d ih =>
    intro i k hi hk
    obtain ⟨k, rfl⟩ : ∃ m, k = m + 1 := ⟨k - 1, by omega⟩
    have hw : wrap64 ((i : Int) + 1) = ((i + 1 : Nat) : Int) := w_add i 1 (by omega)
    simp only [code_Encode.l1]
    rw [if_pos (by omega), if_pos (by omega), if_pos (by omega), if_pos (by omega), ne_bool, hw, ih (i + 1) k (by omega) (by omega), drop_rd xs i (by omega), drop_rd x0 i (by omega)]
    by_cases h : rd_T36 xs i = rd_T36 x0 i
    · rw [if_neg (by simp [h]), h]; simp only [List.cons.injEq, true_and]
    · rw [if_pos (by simp [h]), if_neg (by simp [h])]

theorem same_cmp (xs x0 : List S36) (hl : xs.length = x0.length) (hx : xs.length ≤ 100000) (d : Nat) : ∀ (i k : Nat), i + d = xs.length → d < k →
    regletref06_Same.l0 k xs x0 i = some (decide (xs.drop i = x0.drop i)) := by
  induction d with
  | zero =>
    intro i k hi hk
    obtain ⟨k, rfl⟩ : ∃ m, k = m + 1 := ⟨k - 1, by omega⟩
    simp only [regletref06_Same.l0]
    rw [if_neg (by omega), List.drop_eq_nil_of_le (by omega), List.drop_eq_nil_of_le (by omega)]; simp
  | succ d ih =>
    intro i k hi hk
    obtain ⟨k, rfl⟩ : ∃ m, k = m + 1 := ⟨k - 1, by omega⟩
    have hw : wrap64 ((i : Int) + 1) = ((i + 1 : Nat) : Int) := w_add i 1 (by omega)
    simp only [regletref06_Same.l0]
    rw [if_pos (by omega), if_pos (by omega), if_pos (by omega), ne_bool, hw, ih (i + 1) k (by omega) (by omega), drop_rd xs i (by omega), drop_rd x0 i (by omega)]
    by_cases h : rd_T36 xs i = rd_T36 x0 i
    · rw [if_neg (by simp [h]), h]; simp only [List.cons.injEq, true_and]
    · rw [if_pos (by simp [h])]; simp [h]

theorem same_some (k : Nat) (xs x0 : List S36) (hx : xs.length ≤ 100000) (hk : 100000 < k) : regletref06_Same.f k xs x0 = some (decide (xs = x0)) := by
  unfold regletref06_Same.f
  by_cases h : (xs.length : Int) = (x0.length : Int)
  · rw [if_pos h]; exact same_cmp xs x0 (by omega) hx xs.length 0 k (by omega) (by omega)
  · rw [if_neg h, decide_eq_false (fun e => h (by rw [e]))]

/-- The program's Encode, from some bytes on. -/
def encP (x0 : List S36) : List Int → List S36 → List Int × Int
  | b, [] => fin x0 b
  | b, x :: t => if b.length > 4000 then ([], 1) else encP x0 (b ++ bytesP x) t
/-- The document's. -/
def encR (x0 : List S36) : List Int → List S36 → List Int × Int
  | b, [] => fin x0 b
  | b, x :: t => if b.length ≤ 4000 then encR x0 (b ++ bytesR x) t else fin x0 b

theorem enc_fin (x0 : List S36) (_hx : x0.length ≤ 100000) (b : List Int) (hb : Bytes b) (k : Nat) (hk : 30000 ≤ k) (i : Int) (hi : ¬ i < (x0.length : Int)) :
    code_Encode.l0 (k + 1) x0 b x0 (x0.length : Int) i = some (fin x0 b) := by
  obtain ⟨k, rfl⟩ : ∃ m, k = m + 1 := ⟨k - 1, by omega⟩
  obtain ⟨h1, _, h3⟩ := decR_some b hb (k + 1) (by omega)
  simp only [code_Encode.l0]
  rw [if_neg hi, h1, Option.bind_some]
  unfold fin
  by_cases h0 : (decR b).2 = 0
  · rw [if_pos h0]
    simp only [code_Encode.j3]
    by_cases hl : ((decR b).1.length : Int) = (x0.length : Int)
    · have e0 : code_Encode.l1 k x0 b (decR b).1 ((decR b).1.length : Int) 0 = some (if (decR b).1 = x0 then (b, 0) else ([], 1)) :=
        enc_cmp x0 b (decR b).1 (by omega) (by omega) (decR b).1.length 0 k (by omega) (by omega)
      rw [if_neg (by simpa using hl), e0]
      by_cases he : (decR b).1 = x0
      · rw [if_pos he, if_pos ⟨h0, he⟩]
      · rw [if_neg he, if_neg (fun h => he h.2)]
    · rw [if_pos (by simpa using hl), if_neg (fun h => hl (by rw [h.2]))]
  · rw [if_neg h0, if_neg (fun h => h0 h.1)]
    simp only [code_Encode.j3, if_true]

theorem enc_loop (x0 : List S36) (hx : x0.length ≤ 100000) (d : Nat) : ∀ (i : Nat) (b : List Int) (k : Nat), i + d = x0.length → Bytes b → 30001 + 3 * d ≤ k →
    code_Encode.l0 k x0 b x0 (x0.length : Int) i = some (encP x0 b (x0.drop i)) := by
  induction d with
  | zero =>
    intro i b k hi hb hk
    obtain ⟨k, rfl⟩ : ∃ m, k = m + 1 := ⟨k - 1, by omega⟩
    rw [enc_fin x0 hx b hb k (by omega) i (by omega), List.drop_eq_nil_of_le (by omega)]; rfl
  | succ d ih =>
    intro i b k hi hb hk
    obtain ⟨k, rfl⟩ : ∃ m, k = m + 3 := ⟨k - 3, by omega⟩
    rw [drop_rd x0 i (by omega)]
    unfold encP
    by_cases h : b.length > 4000
    · rw [if_pos h]
      simp only [code_Encode.l0]
      rw [if_pos (by omega), if_pos (by omega), if_pos (by omega), if_pos (by omega)]
    · rw [if_neg h]
      exact enc_step k x0 b i _ (by omega) (by omega) (by omega) (by omega) (ih (i + 1) _ k (by omega) (bytes_app hb (bytesP_bytes _)) (by omega))

theorem code_encode_some (x0 : List S36) (hx : x0.length ≤ 100000) (k : Nat) (hk : 400000 ≤ k) : code_Encode.f k x0 = some (encP x0 [] x0) := by
  unfold code_Encode.f
  exact enc_loop x0 hx x0.length 0 [] k (by omega) (fun _ h => by simp at h) (by omega)

theorem ref_fin (x0 : List S36) (b : List Int) (hb : Bytes b) (k : Nat) (hk : 120000 ≤ k) (i : Int) (hi : (decide (i < (x0.length : Int)) && decide ((b.length : Int) ≤ 4000)) = false) :
    regletref06_Encode.l0 (k + 2) x0 b i = some (fin x0 b) := by
  obtain ⟨_, h1, h3⟩ := decR_some b hb k (by omega)
  have key : regletref06_Encode.j1 (k + 1) x0 b i false = some (fin x0 b) := by
    simp only [regletref06_Encode.j1]
    rw [if_neg (by decide), h1, Option.bind_some]
    unfold fin
    by_cases h0 : (decR b).2 = 0
    · rw [if_pos h0, same_some k _ _ (by omega) (by omega), Option.bind_some]
      by_cases he : (decR b).1 = x0
      · rw [if_pos (by simpa using he), if_pos ⟨h0, he⟩]
      · rw [if_neg (by simpa using he), if_neg (fun h => he h.2)]
    · rw [if_neg h0, if_neg (fun h => h0 h.1)]
  simp only [regletref06_Encode.l0]
  by_cases h : i < (x0.length : Int)
  · rw [if_pos h]
    rw [decide_eq_true h, Bool.true_and] at hi
    rw [hi]; exact key
  · rw [if_neg h]; exact key

theorem ref_loop (x0 : List S36) (hx : x0.length ≤ 100000) (d : Nat) : ∀ (i : Nat) (b : List Int) (k : Nat), i + d = x0.length → Bytes b → 120002 + 6 * d ≤ k →
    regletref06_Encode.l0 k x0 b i = some (encR x0 b (x0.drop i)) := by
  induction d with
  | zero =>
    intro i b k hi hb hk
    obtain ⟨k, rfl⟩ : ∃ m, k = m + 2 := ⟨k - 2, by omega⟩
    rw [ref_fin x0 b hb k (by omega) i (by rw [decide_eq_false (by omega)]; rfl), List.drop_eq_nil_of_le (by omega)]; rfl
  | succ d ih =>
    intro i b k hi hb hk
    rw [drop_rd x0 i (by omega)]
    unfold encR
    by_cases h : b.length ≤ 4000
    · rw [if_pos h]
      obtain ⟨k, rfl⟩ : ∃ m, k = m + 6 := ⟨k - 6, by omega⟩
      exact ref_enc_step k x0 b i _ (by omega) (by omega) (by omega) (by omega) (ih (i + 1) _ k (by omega) (bytes_app hb (bytesR_bytes _)) (by omega))
    · rw [if_neg h]
      obtain ⟨k, rfl⟩ : ∃ m, k = m + 2 := ⟨k - 2, by omega⟩
      exact ref_fin x0 b hb k (by omega) i (by rw [decide_eq_false (show ¬ ((b.length : Int) ≤ 4000) by omega), Bool.and_false])

theorem ref_encode_some (x0 : List S36) (hx : x0.length ≤ 100000) (k : Nat) (hk : 800000 ≤ k) : regletref06_Encode.f k x0 = some (encR x0 [] x0) := by
  unfold regletref06_Encode.f
  exact ref_loop x0 hx x0.length 0 [] k (by omega) (fun _ h => by simp at h) (by omega)

/-! What Decode's answers are made of. -/
inductive FC (b : List Int) : Nat → List S36 → Prop
  | nil : FC b b.length []
  | cons {pc n : Nat} {s : Int} {t : List S36} (h : pc < b.length) (hs : code_shape.f 10 (rd b pc) = some s) (hn : (n : Int) = shapeSize s) (h1 : 1 ≤ n) (h2 : pc + n ≤ b.length) (r : FC b (pc + n) t) : FC b pc (opAt b s pc :: t)

theorem decode_l1v (b : List Int) (acc : List S36) (st : List Bool) (hst : st.length = b.length) (hacc : acc.length ≤ 4000) (d : Nat) : ∀ (k i : Nat), i + d = acc.length → d < k →
    ∃ R, code_Decode.l1 k b acc st acc (acc.length : Int) i = some R ∧ (R = (acc, 0) ∨ R = ([], 41)) := by
  induction d with
  | zero =>
    intro k i hi hk
    obtain ⟨k, rfl⟩ : ∃ m, k = m + 1 := ⟨k - 1, by omega⟩
    refine ⟨(acc, 0), ?_, .inl rfl⟩
    simp only [code_Decode.l1]; rw [if_neg (by omega)]
  | succ d ih =>
    intro k i hi hk
    obtain ⟨k, rfl⟩ : ∃ m, k = m + 1 := ⟨k - 1, by omega⟩
    obtain ⟨R, h1, h3⟩ := ih k (i + 1) (by omega) (by omega)
    obtain ⟨x, hx1, _⟩ := leads_same (rd_T36 acc i).f1
    rw [code_look b acc st hst hacc k i (by omega) x hx1, h1]
    unfold look
    split
    · split
      · exact ⟨_, rfl, .inr rfl⟩
      · split
        · exact ⟨_, rfl, .inr rfl⟩
        · split
          · exact ⟨R, rfl, h3⟩
          · exact ⟨_, rfl, .inr rfl⟩
    · exact ⟨R, rfl, h3⟩

theorem decode_l0v (b : List Int) (hb : Bytes b) (hlen : b.length ≤ 4000) (d : Nat) : ∀ (k pc : Nat) (acc : List S36) (st : List Bool), b.length - pc ≤ d → pc ≤ b.length → 4 * d + 4100 < k → st.length = b.length → acc.length ≤ pc →
    ∃ R, code_Decode.l0 k b acc st pc = some R ∧ (R.2 = 0 → ∃ t, R.1 = acc ++ t ∧ FC b pc t) ∧ (R.2 ≠ 0 → R.1 = []) := by
  have fin : ∀ (k pc : Nat) (acc : List S36) (st : List Bool), ¬ pc < b.length → pc ≤ b.length → 4100 < k → st.length = b.length → acc.length ≤ pc →
      ∃ R, code_Decode.l0 k b acc st pc = some R ∧ (R.2 = 0 → ∃ t, R.1 = acc ++ t ∧ FC b pc t) ∧ (R.2 ≠ 0 → R.1 = []) := by
    intro k pc acc st hge hpc hk hst hacc
    obtain ⟨k, rfl⟩ : ∃ x, k = x + 1 := ⟨k - 1, by omega⟩
    simp only [code_Decode.l0]
    rw [if_neg (by omega)]
    obtain ⟨R, h1, h3⟩ := decode_l1v b acc st hst (by omega) acc.length (acc.length + 1) 0 (by omega) (by omega)
    have epc : pc = b.length := by omega
    refine ⟨R, mono_le (f := fun k => code_Decode.l1 k b acc st acc (acc.length : Int) 0) (fun k => (code_Decode.mono_l k).2 _ _ _ _ _ _) (show acc.length + 1 ≤ k by omega) h1, ?_, ?_⟩
    · intro h0
      rcases h3 with rfl | rfl
      · exact ⟨[], by simp, by rw [epc]; exact .nil⟩
      · simp at h0
    · intro h0
      rcases h3 with rfl | rfl
      · simp at h0
      · rfl
  induction d with
  | zero => intro k pc acc st hd hpc hk hst hacc; exact fin k pc acc st (by omega) hpc (by omega) hst hacc
  | succ d ih =>
    intro k pc acc st hd hpc hk hst hacc
    by_cases hlt : pc < b.length
    · obtain ⟨k, rfl⟩ : ∃ x, k = x + 1 := ⟨k - 1, by omega⟩
      have C := byte_at hb (pc : Int)
      obtain ⟨p, hp, h1, _⟩ := table (rd b pc) C.1 C.2
      obtain ⟨s, r⟩ := p
      rw [code_step b hb hlen k pc (by omega) acc st hlt hst (by omega) s r hp h1]
      split
      · exact ⟨_, rfl, fun h => by simp at h, fun _ => rfl⟩
      · rename_i h0
        split
        · exact ⟨_, rfl, fun h => by simp at h, fun _ => rfl⟩
        · rename_i hg
          have hsz : shapeSize s = 0 ∨ shapeSize s = 1 ∨ shapeSize s = 2 ∨ shapeSize s = 3 := by unfold shapeSize; omega
          obtain ⟨n, hn⟩ : ∃ n : Nat, shapeSize s = n := ⟨(shapeSize s).toNat, by omega⟩
          have hpn : (pc : Int) + shapeSize s = ((pc + n : Nat) : Int) := by omega
          rw [hpn]
          obtain ⟨R, h3, h4, h5⟩ := ih k (pc + n) (acc ++ [opAt b s pc]) (st.set pc true) (by omega) (by omega) (by omega) (by simp [hst]) (by simp; omega)
          refine ⟨R, h3, fun h => ?_, h5⟩
          obtain ⟨t, ht, hf⟩ := h4 h
          exact ⟨opAt b s pc :: t, by rw [ht]; simp, .cons hlt h1 hn.symm (by omega) (by omega) hf⟩
    · exact fin k pc acc st hlt hpc (by omega) hst hacc

theorem decR_v (b : List Int) (hb : Bytes b) : ((decR b).2 = 0 → FC b 0 (decR b).1 ∧ b.length ≤ 4000) ∧ ((decR b).2 ≠ 0 → (decR b).1 = []) := by
  obtain ⟨h1, _, _⟩ := decR_some b hb 25000 (Nat.le_refl _)
  generalize decR b = R at h1 ⊢
  unfold code_Decode.f at h1
  by_cases h0 : (b.length : Int) = 0
  · rw [if_pos h0] at h1; obtain rfl := Option.some.inj h1; exact ⟨fun h => by simp at h, fun _ => rfl⟩
  rw [if_neg h0] at h1
  by_cases h2 : (b.length : Int) > 4000
  · rw [if_pos h2] at h1; obtain rfl := Option.some.inj h1; exact ⟨fun h => by simp at h, fun _ => rfl⟩
  have g1 : (0 : Int) ≤ (b.length : Int) := by omega
  have g2 : ((b.length : Int)).toNat ≤ 281474976710656 := by omega
  rw [if_neg h2, if_pos g1, if_pos g2, Int.toNat_natCast] at h1
  obtain ⟨R', h3, h4, h5⟩ := decode_l0v b hb (by omega) b.length 25000 0 [] (List.replicate b.length false) (by omega) (by omega) (by omega) (List.length_replicate) (Nat.zero_le _)
  have e : code_Decode.l0 25000 b [] (List.replicate b.length false) 0 = some R' := h3
  rw [e] at h1
  obtain rfl := Option.some.inj h1
  refine ⟨fun h => ⟨?_, by omega⟩, h5⟩
  obtain ⟨t, ht, hf⟩ := h4 h
  rw [ht, List.nil_append]; exact hf

theorem opAt_f0 (b : List Int) (s : Int) (pc : Nat) : (opAt b s pc).f0 = pc := by
  unfold opAt opOf; split <;> (try rfl); split <;> (try rfl); split <;> (try rfl); split <;> (try rfl); split <;> (try rfl); split <;> rfl
theorem opAt_f1 (b : List Int) (s : Int) (pc : Nat) : (opAt b s pc).f1 = rd b pc := by
  unfold opAt opOf; split <;> (try rfl); split <;> (try rfl); split <;> (try rfl); split <;> (try rfl); split <;> (try rfl); split <;> rfl

theorem FC.codes {b : List Int} (hb : Bytes b) {pc : Nat} {l : List S36} (h : FC b pc l) : ∀ x ∈ l, 0 ≤ x.f1 ∧ x.f1 ≤ 255 := by
  induction h with
  | nil => intro x hx; simp at hx
  | cons h hs hn h1 h2 r ih =>
    intro x hx
    rcases List.mem_cons.1 hx with e | e
    · rw [e, opAt_f1]; exact byte_at hb _
    · exact ih x e

theorem decR_codes (b : List Int) (hb : Bytes b) : ∀ x ∈ (decR b).1, 0 ≤ x.f1 ∧ x.f1 ≤ 255 := by
  obtain ⟨h1, h2⟩ := decR_v b hb
  by_cases h : (decR b).2 = 0
  · exact (h1 h).1.codes hb
  · rw [h2 h]; intro x hx; simp at hx

/-- A list with a code that is none is refused. -/
theorem fin_bad (x0 : List S36) (x : S36) (hx : x ∈ x0) (hc : ¬ (0 ≤ x.f1 ∧ x.f1 ≤ 255)) (b : List Int) (hb : Bytes b) : fin x0 b = ([], 1) := by
  unfold fin
  rw [if_neg]
  rintro ⟨_, e⟩
  exact hc (decR_codes b hb x (e ▸ hx))

theorem fin_long (x0 : List S36) (b : List Int) (hb : Bytes b) (h : 4000 < b.length) : fin x0 b = ([], 1) := by
  unfold fin
  rw [if_neg]
  rintro ⟨e, _⟩
  have := ((decR_v b hb).1 e).2
  omega

theorem enc_bad (x0 : List S36) (x : S36) (hx : x ∈ x0) (hc : ¬ (0 ≤ x.f1 ∧ x.f1 ≤ 255)) (l : List S36) : ∀ b, Bytes b → encP x0 b l = ([], 1) ∧ encR x0 b l = ([], 1) := by
  induction l with
  | nil => intro b hb; exact ⟨fin_bad x0 x hx hc b hb, fin_bad x0 x hx hc b hb⟩
  | cons y t ih =>
    intro b hb
    unfold encP encR
    have h1 := ih _ (bytes_app hb (bytesP_bytes y))
    have h2 := ih _ (bytes_app hb (bytesR_bytes y))
    constructor
    · split
      · rfl
      · exact h1.1
    · split
      · exact h2.2
      · exact fin_bad x0 x hx hc b hb

theorem enc_good (x0 : List S36) (l : List S36) : ∀ b, Bytes b → (∀ x ∈ l, 0 ≤ x.f1 ∧ x.f1 ≤ 255) → encP x0 b l = encR x0 b l := by
  induction l with
  | nil => intro b hb _; rfl
  | cons y t ih =>
    intro b hb hl
    unfold encP encR
    have hy := hl y (List.mem_cons_self ..)
    by_cases h : b.length > 4000
    · rw [if_pos h, if_neg (by omega), fin_long x0 b hb h]
    · rw [if_neg h, if_pos (by omega), ← same_bytes y hy.1 hy.2]
      exact ih _ (bytes_app hb (bytesP_bytes y)) (fun x hx => hl x (List.mem_cons_of_mem _ hx))

theorem enc_same (x0 : List S36) : encP x0 [] x0 = encR x0 [] x0 := by
  have hb : Bytes [] := fun _ h => by simp at h
  by_cases h : ∀ x ∈ x0, 0 ≤ x.f1 ∧ x.f1 ≤ 255
  · exact enc_good x0 x0 [] hb h
  · obtain ⟨x, hx⟩ := Classical.not_forall.1 h
    obtain ⟨hx, hc⟩ := Classical.not_imp.1 hx
    obtain ⟨h1, h2⟩ := enc_bad x0 x hx hc x0 [] hb
    rw [h1, h2]

theorem encP_bytes (x0 l : List S36) : ∀ b, Bytes b → Bytes (encP x0 b l).1 := by
  have hn : Bytes [] := fun _ h => by simp at h
  induction l with
  | nil => intro b hb; unfold encP fin; split; exact hb; exact hn
  | cons y t ih =>
    intro b hb
    unfold encP
    split
    · exact hn
    · exact ih _ (bytes_app hb (bytesP_bytes y))

end Go.Proofs.Ytbicilgcmopidaa.PAll
