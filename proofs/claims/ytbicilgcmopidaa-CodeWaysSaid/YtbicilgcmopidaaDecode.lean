/-
  The program's Decode and the document's, side by side: the same answer for all bytes.
-/
import Derived.Test.YtbicilgcmopidaaStep
namespace Go.Proofs.Ytbicilgcmopidaa.PAll
open Go.RowKit Go.Proofs.YtbicilgcmopidaaW.PrintWords Go.Proofs.YtbicilgcmopidaaW.PrintLast Go.Proofs.YtbicilgcmopidaaW.PrintMore

theorem w_add (pc j : Nat) (h : pc + j ≤ 1000000) : wrap64 ((pc : Int) + (j : Int)) = ((pc + j : Nat) : Int) := by unfold wrap64; omega

theorem leads_same (c : Int) : ∃ x, code_Leads.f c = some x ∧ regletref06_Leads.f c = some x := by
  unfold code_Leads.f regletref06_Leads.f
  split
  · split
    · exact ⟨_, rfl, rfl⟩
    · split <;> exact ⟨_, rfl, rfl⟩
  · split <;> exact ⟨_, rfl, rfl⟩

theorem guarded {α : Type} (A L M : Int) (hM : M = L) (p q : Option α) : (if A < 0 then p else (if A ≥ L then p else (if 0 ≤ A then (if A < M then q else none) else none))) = (if A < 0 then p else (if A ≥ L then p else q)) := by
  by_cases h1 : A < 0
  · rw [if_pos h1, if_pos h1]
  · rw [if_neg h1, if_neg h1]
    by_cases h2 : A ≥ L
    · rw [if_pos h2, if_pos h2]
    · rw [if_neg h2, if_neg h2, if_pos (by omega), if_pos (by omega)]

/-- The second look, at one instruction. -/
def look (b : List Int) (st : List Bool) (x : S36) (lead : Bool) (rec : Option (List S36 × Int)) : Option (List S36 × Int) :=
  if lead = true then (if x.f2 < 0 then some (([] : List S36), 41) else (if x.f2 ≥ (b.length : Int) then some (([] : List S36), 41) else (if rdOf false st x.f2 = true then rec else some (([] : List S36), 41)))) else rec

theorem code_look (b : List Int) (acc : List S36) (st : List Bool) (hst : st.length = b.length) (hacc : acc.length ≤ 4000) (k i : Nat) (hi : i < acc.length) (x : Bool) (hx : code_Leads.f (rd_T36 acc i).f1 = some x) :
    code_Decode.l1 (k + 1) b acc st acc (acc.length : Int) i = look b st (rd_T36 acc i) x (code_Decode.l1 k b acc st acc (acc.length : Int) ((i + 1 : Nat) : Int)) := by
  have hw : wrap64 ((i : Int) + 1) = ((i + 1 : Nat) : Int) := w_add i 1 (by omega)
  simp only [code_Decode.l1]
  rw [if_pos (by omega), if_pos (by omega), if_pos (by omega), hx, Option.bind_some, hw, guarded _ _ _ (by omega)]
  rfl

theorem ref_look (b : List Int) (acc : List S36) (st : List Bool) (hst : st.length = b.length) (hacc : acc.length ≤ 4000) (k i : Nat) (hi : i < acc.length) (x : Bool) (hx : regletref06_Leads.f (rd_T36 acc i).f1 = some x) :
    regletref06_Decode.l1 (k + 1) b acc st i = look b st (rd_T36 acc i) x (regletref06_Decode.l1 k b acc st ((i + 1 : Nat) : Int)) := by
  have hw : wrap64 ((i : Int) + 1) = ((i + 1 : Nat) : Int) := w_add i 1 (by omega)
  simp only [regletref06_Decode.l1]
  rw [if_pos (by omega), if_pos (by omega), hx, Option.bind_some, hw, guarded _ _ _ (by omega)]
  rfl

theorem decode_l1 (b : List Int) (acc : List S36) (st : List Bool) (hst : st.length = b.length) (hacc : acc.length ≤ 4000) (d : Nat) : ∀ (k i : Nat), i + d = acc.length → d < k →
    ∃ R, code_Decode.l1 k b acc st acc (acc.length : Int) i = some R ∧ regletref06_Decode.l1 k b acc st i = some R ∧ R.1.length ≤ 4000 := by
  induction d with
  | zero =>
    intro k i hi hk
    obtain ⟨k, rfl⟩ : ∃ m, k = m + 1 := ⟨k - 1, by omega⟩
    refine ⟨(acc, 0), ?_, ?_, hacc⟩
    · simp only [code_Decode.l1]; rw [if_neg (by omega)]
    · simp only [regletref06_Decode.l1]; rw [if_neg (by omega)]
  | succ d ih =>
    intro k i hi hk
    obtain ⟨k, rfl⟩ : ∃ m, k = m + 1 := ⟨k - 1, by omega⟩
    obtain ⟨R, h1, h2, h3⟩ := ih k (i + 1) (by omega) (by omega)
    obtain ⟨x, hx1, hx2⟩ := leads_same (rd_T36 acc i).f1
    rw [code_look b acc st hst hacc k i (by omega) x hx1, ref_look b acc st hst hacc k i (by omega) x hx2, h1, h2]
    unfold look
    split
    · split
      · exact ⟨_, rfl, rfl, Nat.zero_le _⟩
      · split
        · exact ⟨_, rfl, rfl, Nat.zero_le _⟩
        · split
          · exact ⟨R, rfl, rfl, h3⟩
          · exact ⟨_, rfl, rfl, Nat.zero_le _⟩
    · exact ⟨R, rfl, rfl, h3⟩

theorem sx16_lim (v : Int) (h0 : 0 ≤ v) (h1 : v ≤ 65535) : -32768 ≤ sx16 v ∧ sx16 v ≤ 32767 := by unfold sx16; split <;> omega
theorem pc_sx16 (pc v : Int) (h0 : 0 ≤ v) (h1 : v ≤ 65535) (h2 : 0 ≤ pc) (h3 : pc ≤ 4000) : wrap64 (pc + sx16 v) = pc + sx16 v := by
  have := sx16_lim v h0 h1
  exact w_small _ (by omega) (by omega)
theorem op0 (pc c b1 b2 : Int) : opOf 0 pc c b1 b2 = ⟨pc, c, 0, 0⟩ := rfl
theorem op1 (pc c b1 b2 : Int) : opOf 1 pc c b1 b2 = ⟨pc, c, b1, 0⟩ := rfl
theorem op2 (pc c b1 b2 : Int) : opOf 2 pc c b1 b2 = ⟨pc, c, sx8 b1, 0⟩ := rfl
theorem op3 (pc c b1 b2 : Int) : opOf 3 pc c b1 b2 = ⟨pc, c, b1 * 256 + b2, 0⟩ := rfl
theorem op4 (pc c b1 b2 : Int) : opOf 4 pc c b1 b2 = ⟨pc, c, sx16 (b1 * 256 + b2), 0⟩ := rfl
theorem op5 (pc c b1 b2 : Int) : opOf 5 pc c b1 b2 = ⟨pc, c, pc + sx16 (b1 * 256 + b2), 0⟩ := rfl
theorem op6 (pc c b1 b2 : Int) : opOf 6 pc c b1 b2 = ⟨pc, c, b1, sx8 b2⟩ := rfl

/-- What the document reads behind an instruction's first byte. -/
theorem ref_tail (b : List Int) (hb : Bytes b) (acc : List S36) (st : List Bool) (pc : Nat) (s r : Int) (k : Nat) (hk : 50 ≤ k) (hlen : b.length ≤ 4000) (hst : st.length = b.length) (hacc : acc.length ≤ 4000) (hpc : pc < b.length)
    (hp : (s, r) ∈ pairs) (hr : regletref06_row.f 50 (rd b pc) = some r) (hn : (pc : Int) + shapeSize s ≤ b.length) (hs : s ≠ -1) :
    regletref06_Decode.j1 (k + 3) b acc st pc (rd b pc) (shapeSize s) false = regletref06_Decode.l0 k b (acc ++ [opOf s pc (rd b pc) (rd b ((pc + 1 : Nat) : Int)) (rd b ((pc + 2 : Nat) : Int))]) (st.set pc true) ((pc : Int) + shapeSize s) := by
  have g1 : (0 : Int) ≤ ((pc + 1 : Nat) : Int) := by omega
  have g2 : (0 : Int) ≤ ((pc + 2 : Nat) : Int) := by omega
  have w1 : wrap64 ((pc : Int) + 1) = ((pc + 1 : Nat) : Int) := w_add pc 1 (by omega)
  have w2 : wrap64 ((pc : Int) + 2) = ((pc + 2 : Nat) : Int) := w_add pc 2 (by omega)
  have B1 := byte_at hb ((pc + 1 : Nat) : Int)
  have B2 := byte_at hb ((pc + 2 : Nat) : Int)
  have hrow := row_le hk hr
  have t1 : (0 : Int) ≤ (pc : Int) := by omega
  have t2 : (pc : Int) < (st.length : Int) := by omega
  have t3 : acc.length < 4398046511104 := by omega
  have x1 : wrap64 (rd b ((pc + 1 : Nat) : Int)) = rd b ((pc + 1 : Nat) : Int) := w_small _ (by omega) (by omega)
  have x2 : wrap64 (rd b ((pc + 2 : Nat) : Int)) = rd b ((pc + 2 : Nat) : Int) := w_small _ (by omega) (by omega)
  simp only [regletref06_Decode.j1, Bool.false_eq_true, if_false]
  generalize hc : rd b (pc : Int) = c at *
  generalize hb1 : rd b ((pc + 1 : Nat) : Int) = b1 at *
  generalize hb2 : rd b ((pc + 2 : Nat) : Int) = b2 at *
  simp only [pairs, List.mem_cons, Prod.mk.injEq, List.not_mem_nil, or_false] at hp
  rcases hp with ⟨rfl, rfl⟩ | ⟨rfl, rfl⟩ | ⟨rfl, rfl⟩ | ⟨rfl, rfl⟩ | ⟨rfl, rfl⟩ | ⟨rfl, rfl⟩ | ⟨rfl, rfl⟩ | ⟨rfl, rfl⟩
  · exact absurd rfl hs
  · -- one byte
    have en : shapeSize 0 = 1 := by decide
    rw [en] at hn ⊢
    have w : wrap64 ((pc : Int) + 1) = (pc : Int) + 1 := by rw [w1]; omega
    rw [if_neg (by decide)]
    simp only [regletref06_Decode.j2]; rw [if_neg (by decide)]
    simp only [regletref06_Decode.j3]; rw [hrow, Option.bind_some]
    simp only [Int.reduceEq, if_false]
    rw [if_pos t1, if_pos t2, if_pos t3, w, Int.toNat_natCast, op0]
  · -- a byte
    have en : shapeSize 1 = 2 := by decide
    rw [en] at hn ⊢
    have w : wrap64 ((pc : Int) + 2) = (pc : Int) + 2 := by rw [w2]; omega
    rw [if_pos (by decide), if_pos (by omega), if_pos (by omega), w1, hb1, x1]
    simp only [regletref06_Decode.j2]; rw [if_neg (by decide)]
    simp only [regletref06_Decode.j3]; rw [hrow, Option.bind_some]
    simp only [Int.reduceEq, if_false, if_true]
    rw [if_pos t1, if_pos t2, if_pos t3, w, Int.toNat_natCast, op1]
  · -- a byte with a sign
    have en : shapeSize 2 = 2 := by decide
    rw [en] at hn ⊢
    have w : wrap64 ((pc : Int) + 2) = (pc : Int) + 2 := by rw [w2]; omega
    have sg : regletref06_sign.f b1 1 = some (sx8 b1) := by
      unfold regletref06_sign.f sx8
      rw [if_neg (by decide)]
      split
      · rw [w_small _ (by omega) (by omega)]; rfl
      · rfl
    rw [if_pos (by decide), if_pos (by omega), if_pos (by omega), w1, hb1, x1]
    simp only [regletref06_Decode.j2]; rw [if_neg (by decide)]
    simp only [regletref06_Decode.j3]; rw [hrow, Option.bind_some]
    simp only [Int.reduceEq, if_false, if_true]
    rw [sg, Option.bind_some, if_pos t1, if_pos t2, if_pos t3, w, Int.toNat_natCast, op2]
  all_goals
    have g3 : ((pc + 1 : Nat) : Int) < (b.length : Int) := by clear w1 w2 x1 x2; simp only [shapeSize, Int.reduceEq, Int.reduceNeg, if_false] at hn; omega
    have g4 : ((pc + 2 : Nat) : Int) < (b.length : Int) := by clear w1 w2 x1 x2; simp only [shapeSize, Int.reduceEq, Int.reduceNeg, if_false] at hn; omega
    have z0 : 0 ≤ b1 * 256 + b2 := by omega
    have z1 : b1 * 256 + b2 ≤ 65535 := by omega
    have z2 : (0 : Int) ≤ (pc : Int) := by omega
    have z3 : (pc : Int) ≤ 4000 := by omega
    have en : shapeSize 4 = 3 := by decide
    have en3 : shapeSize 3 = 3 := by decide
    have en5 : shapeSize 5 = 3 := by decide
    have en6 : shapeSize 6 = 3 := by decide
    simp only [en, en3, en5, en6] at hn ⊢
    have w : wrap64 ((pc : Int) + 3) = (pc : Int) + 3 := w_small _ (by omega) (by omega)
    have y : wrap64 (wrap64 (256 * b1) + b2) = b1 * 256 + b2 := by rw [w_small (256 * b1) (by omega) (by omega), w_small _ (by omega) (by omega)]; omega
    have sg : regletref06_sign.f (b1 * 256 + b2) 2 = some (sx16 (b1 * 256 + b2)) := by
      unfold regletref06_sign.f sx16
      rw [if_pos rfl]
      split
      · rw [w_small _ (by omega) (by omega)]; rfl
      · rfl
    have sg8 : regletref06_sign.f (Int.tmod (b1 * 256 + b2) 256) 1 = some (sx8 b2) := by
      rw [Int.tmod_eq_emod_of_nonneg (by omega), show (b1 * 256 + b2) % 256 = b2 from by omega]
      unfold regletref06_sign.f sx8
      rw [if_neg (by decide)]
      split
      · rw [w_small _ (by omega) (by omega)]; rfl
      · rfl
    have x5 : wrap64 ((pc : Int) + sx16 (b1 * 256 + b2)) = (pc : Int) + sx16 (b1 * 256 + b2) := pc_sx16 (pc : Int) (b1 * 256 + b2) z0 z1 z2 z3
    rw [if_pos (by decide), w1, if_pos g1, if_pos g3, hb1, x1]
    simp only [regletref06_Decode.j2]
    rw [if_pos (by decide), w2, if_pos g2, if_pos g4, hb2, x2, y]
    simp only [regletref06_Decode.j3]; rw [hrow, Option.bind_some]
    simp only [Int.reduceEq, if_false, if_true, sg, sg8, Option.bind_some, x5]
    rw [if_pos t1, if_pos t2, if_pos t3, w, Int.toNat_natCast]; first | rw [op4] | rw [op3] | rw [op5] | rw [op6]

/-- The instruction at a place. -/
def opAt (b : List Int) (s : Int) (pc : Nat) : S36 := opOf s pc (rd b pc) (rd b ((pc + 1 : Nat) : Int)) (rd b ((pc + 2 : Nat) : Int))

theorem code_step (b : List Int) (hb : Bytes b) (hlen : b.length ≤ 4000) (k pc : Nat) (hk : 20 ≤ k) (acc : List S36) (st : List Bool) (hlt : pc < b.length) (hst : st.length = b.length) (hacc : acc.length ≤ 4000)
    (s r : Int) (hp : (s, r) ∈ pairs) (h1 : code_shape.f 10 (rd b pc) = some s) :
    code_Decode.l0 (k + 1) b acc st pc = if shapeSize s = 0 then some (([] : List S36), 40) else if shapeSize s > (b.length : Int) - pc then some (([] : List S36), 40) else code_Decode.l0 k b (acc ++ [opAt b s pc]) (st.set pc true) ((pc : Int) + shapeSize s) := by
  have C := byte_at hb (pc : Int)
  have cs : code_Size.f k (rd b pc) = some (shapeSize s) := by
    obtain ⟨m, rfl⟩ : ∃ m, k = m + 1 := ⟨k - 1, by omega⟩
    exact code_size_of m _ s C.1 C.2 (shape_le (by omega) h1)
  have hsz : shapeSize s = 0 ∨ shapeSize s = 1 ∨ shapeSize s = 2 ∨ shapeSize s = 3 := by unfold shapeSize; omega
  have wc : wrap64 (rd b pc) = rd b pc := w_small _ (by omega) (by omega)
  have wl : wrap64 ((b.length : Int) - pc) = (b.length : Int) - pc := w_small _ (by omega) (by omega)
  have wn : wrap64 ((pc : Int) + shapeSize s) = (pc : Int) + shapeSize s := w_small _ (by omega) (by omega)
  simp only [code_Decode.l0]
  rw [if_pos (by omega), if_pos (by omega), wc, cs, Option.bind_some, wl, wn]
  by_cases h0 : shapeSize s = 0
  · rw [if_pos h0, if_pos h0]
  rw [if_neg h0, if_neg h0]
  by_cases hg : shapeSize s > (b.length : Int) - pc
  · rw [if_pos hg, if_pos hg]
  rw [if_neg hg, if_neg hg, if_pos (by omega), if_pos (by omega), if_pos (by omega)]
  obtain ⟨n, hn⟩ : ∃ n : Nat, shapeSize s = n := ⟨(shapeSize s).toNat, by omega⟩
  have ha : ((pc : Int) + shapeSize s).toNat = pc + n := by omega
  have hsl := slice_length b pc n (by omega)
  have S0 : rd ((b.take (pc + n)).drop pc) 0 = rd b pc := by
    have := rd_slice b pc n 0 (by omega); simpa using this
  have hone : code_one.f k ((b.take (pc + n)).drop pc) pc = some ((opAt b s pc).f0, (opAt b s pc).f1, (opAt b s pc).f2, (opAt b s pc).f3) := by
    have hB := bytes_slice hb (pc + n) pc
    have := code_one_some k (by omega) ((b.take (pc + n)).drop pc) pc s (by omega) (byte_at hB 0) (byte_at hB 1) (byte_at hB 2) (by rw [S0]; exact h1) (by rw [hsl, hn]) (by rw [hsl]; omega)
    rw [this, S0]
    unfold opAt
    rcases (show n = 1 ∨ n = 2 ∨ n = 3 by omega) with e | e | e
    · have : s = 0 := by
        simp [pairs] at hp
        rcases hp with ⟨rfl, rfl⟩ | ⟨rfl, rfl⟩ | ⟨rfl, rfl⟩ | ⟨rfl, rfl⟩ | ⟨rfl, rfl⟩ | ⟨rfl, rfl⟩ | ⟨rfl, rfl⟩ | ⟨rfl, rfl⟩ <;> first | rfl | (exfalso; revert hn; rw [e]; decide)
      subst this; rfl
    · have S1 := rd_slice b pc n 1 (by omega)
      have : s = 1 ∨ s = 2 := by
        simp [pairs] at hp
        rcases hp with ⟨rfl, rfl⟩ | ⟨rfl, rfl⟩ | ⟨rfl, rfl⟩ | ⟨rfl, rfl⟩ | ⟨rfl, rfl⟩ | ⟨rfl, rfl⟩ | ⟨rfl, rfl⟩ | ⟨rfl, rfl⟩ <;> first | decide | (exfalso; revert hn; rw [e]; decide)
      rw [show ((1 : Nat) : Int) = 1 from rfl] at S1
      rw [S1]
      rcases this with rfl | rfl <;> rfl
    · have S1 := rd_slice b pc n 1 (by omega)
      have S2 := rd_slice b pc n 2 (by omega)
      rw [show ((1 : Nat) : Int) = 1 from rfl] at S1
      rw [show ((2 : Nat) : Int) = 2 from rfl] at S2
      rw [S1, S2]
  rw [ha, Int.toNat_natCast, hone, Option.bind_some, if_pos (by omega)]

theorem ref_step (b : List Int) (hb : Bytes b) (hlen : b.length ≤ 4000) (k pc : Nat) (hk : 60 ≤ k) (acc : List S36) (st : List Bool) (hlt : pc < b.length) (hst : st.length = b.length) (hacc : acc.length ≤ 4000)
    (s r : Int) (hp : (s, r) ∈ pairs) (h2 : regletref06_row.f 50 (rd b pc) = some r) :
    regletref06_Decode.l0 (k + 4) b acc st pc = if shapeSize s = 0 then some (([] : List S36), 40) else if shapeSize s > (b.length : Int) - pc then some (([] : List S36), 40) else regletref06_Decode.l0 k b (acc ++ [opAt b s pc]) (st.set pc true) ((pc : Int) + shapeSize s) := by
  have C := byte_at hb (pc : Int)
  have hrr : 0 ≤ r ∧ r ≤ 7 := by simp [pairs] at hp; rcases hp with ⟨rfl, rfl⟩ | ⟨rfl, rfl⟩ | ⟨rfl, rfl⟩ | ⟨rfl, rfl⟩ | ⟨rfl, rfl⟩ | ⟨rfl, rfl⟩ | ⟨rfl, rfl⟩ | ⟨rfl, rfl⟩ <;> decide
  have hss : rowSize r = shapeSize s := by simp [pairs] at hp; rcases hp with ⟨rfl, rfl⟩ | ⟨rfl, rfl⟩ | ⟨rfl, rfl⟩ | ⟨rfl, rfl⟩ | ⟨rfl, rfl⟩ | ⟨rfl, rfl⟩ | ⟨rfl, rfl⟩ | ⟨rfl, rfl⟩ <;> decide
  have rs : regletref06_Size.f (k + 3) (rd b pc) = some (shapeSize s) := by rw [← hss]; exact ref_size_of (k + 3) _ r (row_le (by omega) h2) hrr
  have hsz : shapeSize s = 0 ∨ shapeSize s = 1 ∨ shapeSize s = 2 ∨ shapeSize s = 3 := by unfold shapeSize; omega
  have wc : wrap64 (rd b pc) = rd b pc := w_small _ (by omega) (by omega)
  have wn : wrap64 ((pc : Int) + shapeSize s) = (pc : Int) + shapeSize s := w_small _ (by omega) (by omega)
  simp only [regletref06_Decode.l0]
  rw [if_pos (by omega), if_pos (by omega), wc, rs, Option.bind_some, wn]
  by_cases h0 : shapeSize s = 0
  · rw [if_pos h0, if_pos h0]
    simp only [regletref06_Decode.j1, if_true]
  rw [if_neg h0, if_neg h0]
  by_cases hg : shapeSize s > (b.length : Int) - pc
  · rw [if_pos hg, decide_eq_true (by omega)]
    simp only [regletref06_Decode.j1, if_true]
  rw [if_neg hg, decide_eq_false (by omega)]
  have hsn : s ≠ -1 := fun e => h0 (by rw [e]; decide)
  exact ref_tail b hb acc st pc s r k (by omega) hlen hst hacc hlt hp h2 (by omega) hsn

theorem decode_l0 (b : List Int) (hb : Bytes b) (hlen : b.length ≤ 4000) (d : Nat) : ∀ (k m pc : Nat) (acc : List S36) (st : List Bool), b.length - pc ≤ d → pc ≤ b.length → 4 * d + 4100 < k → 4 * d + 4100 < m → st.length = b.length → acc.length ≤ pc →
    ∃ R, code_Decode.l0 k b acc st pc = some R ∧ regletref06_Decode.l0 m b acc st pc = some R ∧ R.1.length ≤ 4000 := by
  have fin : ∀ (k m pc : Nat) (acc : List S36) (st : List Bool), ¬ pc < b.length → pc ≤ b.length → 4100 < k → 4100 < m → st.length = b.length → acc.length ≤ pc →
      ∃ R, code_Decode.l0 k b acc st pc = some R ∧ regletref06_Decode.l0 m b acc st pc = some R ∧ R.1.length ≤ 4000 := by
    intro k m pc acc st hge hpc hk hm hst hacc
    obtain ⟨k, rfl⟩ : ∃ x, k = x + 1 := ⟨k - 1, by omega⟩
    obtain ⟨m, rfl⟩ : ∃ x, m = x + 1 := ⟨m - 1, by omega⟩
    simp only [code_Decode.l0, regletref06_Decode.l0]
    rw [if_neg (by omega), if_neg (by omega)]
    obtain ⟨R, h1, h2, h3⟩ := decode_l1 b acc st hst (by omega) acc.length (acc.length + 1) 0 (by omega) (by omega)
    refine ⟨R, ?_, ?_, h3⟩
    · exact mono_le (f := fun k => code_Decode.l1 k b acc st acc (acc.length : Int) 0) (fun k => (code_Decode.mono_l k).2 _ _ _ _ _ _) (show acc.length + 1 ≤ k by omega) h1
    · exact mono_le (f := fun k => regletref06_Decode.l1 k b acc st 0) (fun k => (regletref06_Decode.mono_l k).2.2.2.2 _ _ _ _) (show acc.length + 1 ≤ m by omega) h2
  induction d with
  | zero => intro k m pc acc st hd hpc hk hm hst hacc; exact fin k m pc acc st (by omega) hpc (by omega) (by omega) hst hacc
  | succ d ih =>
    intro k m pc acc st hd hpc hk hm hst hacc
    by_cases hlt : pc < b.length
    · obtain ⟨k, rfl⟩ : ∃ x, k = x + 1 := ⟨k - 1, by omega⟩
      obtain ⟨m, rfl⟩ : ∃ x, m = x + 4 := ⟨m - 4, by omega⟩
      have C := byte_at hb (pc : Int)
      obtain ⟨p, hp, h1, h2⟩ := table (rd b pc) C.1 C.2
      obtain ⟨s, r⟩ := p
      rw [code_step b hb hlen k pc (by omega) acc st hlt hst (by omega) s r hp h1, ref_step b hb hlen m pc (by omega) acc st hlt hst (by omega) s r hp h2]
      split
      · exact ⟨_, rfl, rfl, Nat.zero_le _⟩
      · rename_i h0
        split
        · exact ⟨_, rfl, rfl, Nat.zero_le _⟩
        · rename_i hg
          have hsz : shapeSize s = 0 ∨ shapeSize s = 1 ∨ shapeSize s = 2 ∨ shapeSize s = 3 := by unfold shapeSize; omega
          obtain ⟨n, hn⟩ : ∃ n : Nat, shapeSize s = n := ⟨(shapeSize s).toNat, by omega⟩
          have hpn : (pc : Int) + shapeSize s = ((pc + n : Nat) : Int) := by omega
          rw [hpn]
          exact ih k m (pc + n) _ _ (by omega) (by omega) (by omega) (by omega) (by simp [hst]) (by simp; omega)
    · exact fin k m pc acc st hlt hpc (by omega) (by omega) hst hacc

theorem decode_same (b : List Int) (hb : Bytes b) (k : Nat) (hk : 25000 ≤ k) : ∃ R, code_Decode.f k b = some R ∧ regletref06_Decode.f k b = some R ∧ R.1.length ≤ 4000 := by
  unfold code_Decode.f regletref06_Decode.f
  by_cases h0 : (b.length : Int) = 0
  · rw [if_pos h0, if_pos h0]; exact ⟨_, rfl, rfl, Nat.zero_le _⟩
  rw [if_neg h0, if_neg h0]
  by_cases h1 : (b.length : Int) > 4000
  · rw [if_pos h1, if_pos h1]; exact ⟨_, rfl, rfl, Nat.zero_le _⟩
  rw [if_neg h1, if_neg h1]
  have g1 : (0 : Int) ≤ (b.length : Int) := by omega
  have g2 : ((b.length : Int)).toNat ≤ 281474976710656 := by omega
  rw [if_pos g1, if_pos g1, if_pos g2, if_pos g2, Int.toNat_natCast]
  exact decode_l0 b hb (by omega) b.length k k 0 [] _ (by omega) (by omega) (by omega) (by omega) (List.length_replicate) (Nat.zero_le _)

end Go.Proofs.Ytbicilgcmopidaa.PAll
