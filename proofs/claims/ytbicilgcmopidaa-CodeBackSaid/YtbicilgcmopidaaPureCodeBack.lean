/- For all bytes: what Decode takes apart Encode puts together as it was, and the instructions lie one behind the other. No condition. -/
import Derived.Test.YtbicilgcmopidaaPAllx11
import Derived.Test.YtbicilgcmopidaaEncAll
import Derived.Test.YtbicilgcmopidaaPureCodeDecodes
namespace Go.Proofs.Ytbicilgcmopidaa.PAll
open Go.RowKit Go.Proofs.YtbicilgcmopidaaW.PrintWords Go.Proofs.YtbicilgcmopidaaW.PrintLast Go.Proofs.YtbicilgcmopidaaW.PrintMore

theorem take_rd (b : List Int) (i : Nat) (h : i < b.length) : b.take (i + 1) = b.take i ++ [rd b ((i : Nat) : Int)] := by
  rw [List.take_succ_eq_append_getElem h]
  unfold rd; simp [List.getD_eq_getElem?_getD, h]

theorem shape_pairs {b : List Int} (hb : Bytes b) {pc : Nat} {s : Int} (hs : code_shape.f 10 (rd b pc) = some s) : ∃ r, (s, r) ∈ pairs := by
  have C := byte_at hb (pc : Int)
  obtain ⟨p, hp, h1, _⟩ := table (rd b pc) C.1 C.2
  rw [hs] at h1
  obtain rfl := Option.some.inj h1
  exact ⟨p.2, hp⟩

theorem sx16_hi (u v : Int) (hu : 0 ≤ u ∧ u ≤ 255) (hv : 0 ≤ v ∧ v ≤ 255) : sx16 (u * 256 + v) / 256 % 256 = u ∧ sx16 (u * 256 + v) % 256 = v := by
  unfold sx16; split <;> constructor <;> omega
theorem sx8_lo (v : Int) (hv : 0 ≤ v ∧ v ≤ 255) : sx8 v % 256 = v := by
  unfold sx8; split <;> omega

theorem tail_opOf (s r pc c b1 b2 : Int) (hp : (s, r) ∈ pairs) (_hpc : 0 ≤ pc ∧ pc ≤ 4000) (B1 : 0 ≤ b1 ∧ b1 ≤ 255) (B2 : 0 ≤ b2 ∧ b2 ≤ 255) :
    tailP (opOf s pc c b1 b2) s = if shapeSize s = 2 then [b1] else if shapeSize s = 3 then [b1, b2] else [] := by
  have H := sx16_hi b1 b2 B1 B2
  have L := sx8_lo b1 B1
  have L2 := sx8_lo b2 B2
  have M := sx16_lim (b1 * 256 + b2) (by omega) (by omega)
  have W : wrap64 (pc + sx16 (b1 * 256 + b2) - pc) = sx16 (b1 * 256 + b2) := by
    rw [show pc + sx16 (b1 * 256 + b2) - pc = sx16 (b1 * 256 + b2) by omega]; exact w_small _ (by omega) (by omega)
  have q1 : b1 % 256 = b1 := by omega
  have q2 : (b1 * 256 + b2) / 256 % 256 = b1 := by omega
  have q3 : (b1 * 256 + b2) % 256 = b2 := by omega
  simp only [pairs, List.mem_cons, Prod.mk.injEq, List.not_mem_nil, or_false] at hp
  rcases hp with ⟨rfl, _⟩ | ⟨rfl, _⟩ | ⟨rfl, _⟩ | ⟨rfl, _⟩ | ⟨rfl, _⟩ | ⟨rfl, _⟩ | ⟨rfl, _⟩ | ⟨rfl, _⟩
  · rfl
  · rfl
  · show [b1 % 256] = [b1]; rw [q1]
  · show [sx8 b1 % 256] = [b1]; rw [L]
  · show [sx16 (b1 * 256 + b2) / 256 % 256, sx16 (b1 * 256 + b2) % 256] = [b1, b2]; rw [H.1, H.2]
  · show [(b1 * 256 + b2) / 256 % 256, (b1 * 256 + b2) % 256] = [b1, b2]; rw [q2, q3]
  · show [wrap64 (pc + sx16 (b1 * 256 + b2) - pc) / 256 % 256, wrap64 (pc + sx16 (b1 * 256 + b2) - pc) % 256] = [b1, b2]; rw [W, H.1, H.2]
  · show [b1 % 256, sx8 b2 % 256] = [b1, b2]; rw [q1, L2]

theorem bytes_opAt (b : List Int) (hb : Bytes b) (pc n : Nat) (s : Int) (h : pc < b.length) (hl : b.length ≤ 4000) (hs : code_shape.f 10 (rd b pc) = some s) (hn : (n : Int) = shapeSize s) (h1 : 1 ≤ n) (h2 : pc + n ≤ b.length) :
    b.take pc ++ bytesP (opAt b s pc) = b.take (pc + n) := by
  obtain ⟨r, hp⟩ := shape_pairs hb hs
  have C := byte_at hb (pc : Int)
  have e1 : (opAt b s pc).f1 % 256 = rd b pc := by rw [opAt_f1]; omega
  have es : shp (rd b pc) = s := by unfold shp; rw [hs]; rfl
  have et := tail_opOf s r pc (rd b pc) (rd b ((pc + 1 : Nat) : Int)) (rd b ((pc + 2 : Nat) : Int)) hp (by omega) (byte_at hb _) (byte_at hb _)
  have hsz : shapeSize s = 0 ∨ shapeSize s = 1 ∨ shapeSize s = 2 ∨ shapeSize s = 3 := by unfold shapeSize; omega
  unfold bytesP
  rw [e1, es]
  unfold opAt
  rw [et, ← hn]
  have t1 := take_rd b pc h
  rcases (show n = 1 ∨ n = 2 ∨ n = 3 by omega) with rfl | rfl | rfl
  · rw [if_neg (by decide), if_neg (by decide), t1]
  · rw [if_pos (by decide), take_rd b (pc + 1) (by omega), t1]; simp
  · rw [if_neg (by decide), if_pos (by decide), take_rd b (pc + 2) (by omega), take_rd b (pc + 1) (by omega), t1]; simp

theorem enc_fc (b : List Int) (hb : Bytes b) (hl : b.length ≤ 4000) (h0 : (decR b).2 = 0) (pc : Nat) (t : List S36) (h : FC b pc t) : encP (decR b).1 (b.take pc) t = (b, 0) := by
  induction h with
  | nil =>
    rw [List.take_length]
    unfold encP fin
    rw [if_pos ⟨h0, rfl⟩]
  | cons h hs hn h1 h2 r ih =>
    unfold encP
    rw [if_neg (by rw [List.length_take]; omega), bytes_opAt b hb _ _ _ h hl hs hn h1 h2]
    exact ih

theorem back_l0 (b : List Int) (hb : Bytes b) (hl : b.length ≤ 4000) (x : List S36) (hx : x.length ≤ 4000) (pc : Nat) (t : List S36) (h : FC b pc t) : ∀ (i k : Nat), x.drop i = t → i + t.length = x.length → t.length + 20 < k →
    regletlaw06_CodeBack.l0 k b pc x (x.length : Int) i = some true := by
  induction h with
  | nil =>
    intro i k hd hi hk
    obtain ⟨k, rfl⟩ : ∃ m, k = m + 1 := ⟨k - 1, by omega⟩
    simp only [List.length_nil] at hi
    simp only [regletlaw06_CodeBack.l0]
    rw [if_neg (by omega)]; simp
  | cons h hs hn h1 h2 r ih =>
    rename_i pc n s t
    intro i k hd hi hk
    obtain ⟨k, rfl⟩ : ∃ m, k = m + 1 := ⟨k - 1, by omega⟩
    simp only [List.length_cons] at hi hk
    have hil : i < x.length := by omega
    rw [drop_rd x i hil] at hd
    obtain ⟨hx0, hdt⟩ := List.cons.inj hd
    have C := byte_at hb (pc : Int)
    have cs : code_Size.f k (rd b pc) = some (shapeSize s) := by
      obtain ⟨m, rfl⟩ : ∃ m, k = m + 1 := ⟨k - 1, by omega⟩
      exact code_size_of m _ s C.1 C.2 (shape_le (by omega) hs)
    simp only [regletlaw06_CodeBack.l0]
    rw [if_pos (by omega), if_pos (by omega), if_pos (by omega), hx0, opAt_f0, opAt_f1, if_pos rfl, if_pos (by omega), if_pos (by omega), if_pos (w_small _ (by omega) (by omega)).symm, cs, Option.bind_some, ← hn, w_add pc n (by omega), show wrap64 ((i : Int) + 1) = ((i + 1 : Nat) : Int) from w_add i 1 (by omega)]
    exact ih (i + 1) k hdt (by omega) (by omega)

end Go.Proofs.Ytbicilgcmopidaa.PAll
namespace Go.Proofs.Ytbicilgcmopidaa.Pure
open Go.RowKit Go.Proofs.Ytbicilgcmopidaa.PAll Go.Proofs.YtbicilgcmopidaaW.PrintWords Go.Proofs.YtbicilgcmopidaaW.PrintLast

theorem CodeBack : regletlaw06_CodeBack.Pure := by
  intro b _ _ hbw
  have hb := bytes_of b hbw
  refine ⟨900000, ?_⟩
  obtain ⟨h1, _, hl⟩ := decR_some b hb 900000 (by decide)
  obtain ⟨v1, v2⟩ := decR_v b hb
  unfold regletlaw06_CodeBack.f
  rw [holds_some 900000 (by decide), Option.bind_some, if_pos rfl, h1, Option.bind_some]
  by_cases h0 : (decR b).2 = 0
  · obtain ⟨hf, hlen⟩ := v1 h0
    rw [if_pos h0, code_encode_some (decR b).1 (by omega) 900000 (by decide)]
    have e : encP (decR b).1 [] (decR b).1 = (b, 0) := by
      have := enc_fc b hb hlen h0 0 _ hf
      rwa [List.take_zero] at this
    rw [e, Option.bind_some, if_pos rfl]
    have e2 : (((strOfNums b).toList != (strOfNums b).toList)) = false := by simp
    rw [e2]
    have key : regletlaw06_CodeBack.l0 899999 b 0 (decR b).1 ((decR b).1.length : Int) 0 = some true := back_l0 b hb hlen (decR b).1 hl 0 _ hf 0 899999 rfl (by omega) (by omega)
    show regletlaw06_CodeBack.j0 (899999 + 1) b (decR b).1 false = some true
    simp only [regletlaw06_CodeBack.j0]
    rw [if_neg (by decide)]; exact key
  · rw [if_neg h0, v2 h0]; rfl

end Go.Proofs.Ytbicilgcmopidaa.Pure
