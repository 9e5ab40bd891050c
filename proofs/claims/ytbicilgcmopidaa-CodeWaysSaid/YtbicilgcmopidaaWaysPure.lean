/-
  Ways: the code of some sizes, where its instructions begin, and what Decode answers for it.
-/
import Derived.Test.YtbicilgcmopidaaEncAll
namespace Go.Proofs.Ytbicilgcmopidaa.PAll
open Go.RowKit Go.Proofs.YtbicilgcmopidaaW.PrintWords
theorem take_rdw (b : List Int) (i : Nat) (h : i < b.length) : b.take (i + 1) = b.take i ++ [rd b ((i : Nat) : Int)] := by
  rw [List.take_succ_eq_append_getElem h]
  unfold rd; simp [List.getD_eq_getElem?_getD, h]


/-- What kind of instruction a number stands for: 0, 1 or 2. -/
def cls (n : Int) : Nat := ((Int.tmod n 3 + 3) % 3).toNat
def piece (n : Int) : List Int := if cls n = 0 then [0] else if cls n = 1 then [16, 5] else [17, 1, 1]
/-- The bytes so far. -/
def wb (zs : List Int) : List Int := zs.flatMap piece
theorem wb_snoc (zs : List Int) (n : Int) : wb (zs ++ [n]) = wb zs ++ piece n := by unfold wb; simp
theorem wb_app (a b : List Int) : wb (a ++ b) = wb a ++ wb b := by unfold wb; simp
theorem cls_lt (n : Int) : cls n = 0 ∨ cls n = 1 ∨ cls n = 2 := by unfold cls; omega
theorem piece_len (n : Int) : (piece n).length = cls n + 1 := by
  unfold piece
  rcases cls_lt n with h | h | h <;> rw [h] <;> rfl
theorem wb_len (zs : List Int) : zs.length ≤ (wb zs).length ∧ (wb zs).length ≤ 3 * zs.length := by
  induction zs with
  | nil => exact ⟨Nat.le_refl _, Nat.le_refl _⟩
  | cons n t ih =>
    have e : wb (n :: t) = piece n ++ wb t := rfl
    rw [e, List.length_append, List.length_cons, piece_len]
    rcases cls_lt n with h | h | h <;> rw [h] <;> omega
theorem piece_bytes (n : Int) : Bytes (piece n) := by
  unfold piece Bytes
  rcases cls_lt n with h | h | h <;> rw [h] <;> simp
theorem wb_bytes (zs : List Int) : Bytes (wb zs) := by
  intro x hx
  unfold wb at hx
  obtain ⟨n, _, hn⟩ := List.mem_flatMap.1 hx
  exact piece_bytes n x hn

/-- Does an instruction begin at x, among the first i? -/
def begins (zs : List Int) (i : Nat) (x : Int) : Bool := (List.range i).any fun j => x == ((wb (zs.take j)).length : Int)
theorem begins_succ (zs : List Int) (i : Nat) (x : Int) : begins zs (i + 1) x = (begins zs i x || x == ((wb (zs.take i)).length : Int)) := by
  unfold begins; rw [List.range_succ, List.any_append]; simp

/-- All of the code, with a way of so far. -/
def code (zs : List Int) (way : Int) : List Int := wb zs ++ [167, way / 256 % 256, way % 256]
theorem code_len (zs : List Int) (way : Int) : (code zs way).length = (wb zs).length + 3 := by unfold code; simp
theorem code_bytes (zs : List Int) (way : Int) : Bytes (code zs way) := by
  refine bytes_app (wb_bytes zs) ?_
  intro x hx
  simp only [List.mem_cons, List.not_mem_nil, or_false] at hx
  omega

/-- The shape of a piece's code. -/
def shOf (n : Int) : Int := if cls n = 0 then 0 else if cls n = 1 then 2 else 4

/-- The instructions of the pieces from a place on. -/
def opsOf (b : List Int) : Nat → List Int → List S36
  | _, [] => []
  | pc, n :: t => opAt b (shOf n) pc :: opsOf b (pc + (cls n + 1)) t
theorem opsOf_len (b : List Int) (t : List Int) : ∀ pc, (opsOf b pc t).length = t.length := by
  induction t with
  | nil => intro pc; rfl
  | cons n t ih => intro pc; show (opsOf b (pc + (cls n + 1)) t).length + 1 = t.length + 1; rw [ih]

theorem rd_app (a c : List Int) (j : Nat) (hj : j < c.length) : rd (a ++ c) ((a.length + j : Nat) : Int) = c[j] := by
  unfold rd
  rw [Int.toNat_natCast, List.getD_eq_getElem?_getD, List.getElem?_append_right (by omega), Nat.add_sub_cancel_left, List.getElem?_eq_getElem hj]; rfl

theorem rd_piece (a c : List Int) (n : Int) : rd (a ++ (piece n ++ c)) (a.length : Int) = (piece n).headD 0 := by
  obtain ⟨x, y, e⟩ : ∃ x y, piece n = x :: y := by
    unfold piece
    split
    · exact ⟨_, _, rfl⟩
    · split <;> exact ⟨_, _, rfl⟩
  rw [e]
  exact rd_app a (x :: y ++ c) 0 (by simp)

theorem fc_code (zs : List Int) (hz : zs.length ≤ 300) (way : Int) (t : List Int) : ∀ pre, pre ++ t = zs →
    FC (code zs way) (wb pre).length (opsOf (code zs way) (wb pre).length t ++ [opAt (code zs way) 5 (wb zs).length]) := by
  have hl := wb_len zs
  induction t with
  | nil =>
    intro pre hp
    rw [List.append_nil] at hp; subst hp
    have r0 : rd (code pre way) ((wb pre).length : Int) = 167 := rd_app (wb pre) _ 0 (by simp)
    refine FC.cons (n := 3) (by rw [code_len]; omega) (by rw [r0]; decide +kernel) (by decide) (by decide) (by rw [code_len]; omega) ?_
    rw [← code_len pre way]; exact FC.nil
  | cons n t ih =>
    intro pre hp
    have hp' : (pre ++ [n]) ++ t = zs := by rw [← hp]; simp
    have ih' := ih (pre ++ [n]) hp'
    have hw : (wb (pre ++ [n])).length = (wb pre).length + (cls n + 1) := by rw [wb_snoc, List.length_append, piece_len]
    rw [hw] at ih'
    have hcode : code zs way = wb pre ++ (piece n ++ wb t ++ [167, way / 256 % 256, way % 256]) := by
      unfold code
      rw [← hp]
      have : wb (pre ++ n :: t) = wb pre ++ (piece n ++ wb t) := by unfold wb; simp
      rw [this, List.append_assoc]
    have hlt : (wb pre).length + (cls n + 1) ≤ (wb zs).length := by
      rw [← hp', wb_app, List.length_append]
      omega
    have r0 : rd (code zs way) ((wb pre).length : Int) = (piece n).headD 0 := by
      rw [hcode]
      rw [List.append_assoc]; exact rd_piece _ _ _
    refine FC.cons (n := cls n + 1) (by rw [code_len]; omega) ?_ ?_ (by omega) (by rw [code_len]; omega) ih'
    · rw [r0]
      unfold piece shOf
      rcases cls_lt n with h | h | h <;> rw [h] <;> decide +kernel
    · unfold shOf
      rcases cls_lt n with h | h | h <;> rw [h] <;> decide

/-- Decode's first loop over what is told by FC. -/
theorem l0_FC (b : List Int) (hb : Bytes b) (hl : b.length ≤ 4000) (pc : Nat) (t : List S36) (h : FC b pc t) : ∀ (k : Nat) (acc : List S36) (st : List Bool), 20 ≤ k → st.length = b.length → acc.length + t.length ≤ 4000 →
    code_Decode.l0 (k + t.length + 1) b acc st pc = code_Decode.l1 k b (acc ++ t) (t.foldl (fun s x => s.set x.f0.toNat true) st) (acc ++ t) ((acc ++ t).length : Int) 0 := by
  induction h with
  | nil =>
    intro k acc st hk hst ha
    simp only [List.length_nil, Nat.add_zero, code_Decode.l0, List.append_nil, List.foldl_nil]
    rw [if_neg (by omega)]
  | cons h hs hn h1 h2 r ih =>
    rename_i pc n s t
    intro k acc st hk hst ha
    simp only [List.length_cons] at ha ⊢
    have C := byte_at hb (pc : Int)
    obtain ⟨p, hp, hp1, _⟩ := table (rd b pc) C.1 C.2
    obtain ⟨s', r'⟩ := p
    have es : s' = s := by rw [hs] at hp1; exact (Option.some.inj hp1).symm
    subst es
    have step := code_step b hb hl (k + t.length + 1) pc (by omega) acc st h hst (by omega) s' r' hp hs
    rw [show k + (t.length + 1) + 1 = (k + t.length + 1) + 1 by omega, step, if_neg (by omega), if_neg (by omega), ← hn, show (pc : Int) + (n : Int) = ((pc + n : Nat) : Int) by omega]
    rw [ih k _ _ hk (by simp [hst]) (by simp; omega)]
    have e1 : acc ++ [opAt b s' pc] ++ t = acc ++ opAt b s' pc :: t := by simp
    have e2 : (opAt b s' pc :: t).foldl (fun s x => s.set x.f0.toNat true) st = t.foldl (fun s x => s.set x.f0.toNat true) (st.set pc true) := by
      rw [List.foldl_cons, opAt_f0, Int.toNat_natCast]
    rw [e1, e2]

def leadB (c : Int) : Bool := decide (153 ≤ c ∧ c ≤ 167 ∨ c = 198 ∨ c = 199)
theorem lead_eval (c : Int) : code_Leads.f c = some (leadB c) := by
  unfold code_Leads.f leadB
  by_cases h1 : c ≥ 153
  · rw [if_pos h1]
    by_cases h2 : c ≤ 167
    · rw [if_pos h2]; congr 1; simp; omega
    · rw [if_neg h2]
      by_cases h3 : c = 198
      · rw [if_pos h3]; congr 1; simp; omega
      · rw [if_neg h3]; congr 1
        by_cases h4 : c = 199
        · subst h4; decide
        · rw [decide_eq_false (by omega)]; simpa using h4
  · rw [if_neg h1]
    by_cases h3 : c = 198
    · omega
    · rw [if_neg h3]; congr 1
      rw [decide_eq_false (by omega)]; simp; omega

/-- An instruction that leads to where none begins. -/
def badB (n : Nat) (st : List Bool) (x : S36) : Bool := leadB x.f1 && (decide (x.f2 < 0) || (decide (x.f2 ≥ (n : Int)) || !(rdOf false st x.f2)))

theorem l1_eval (b : List Int) (acc : List S36) (st : List Bool) (hst : st.length = b.length) (hacc : acc.length ≤ 4000) (d : Nat) : ∀ (k i : Nat), i + d = acc.length → d < k →
    code_Decode.l1 k b acc st acc (acc.length : Int) i = some (if (acc.drop i).any (badB b.length st) = true then ([], 41) else (acc, 0)) := by
  induction d with
  | zero =>
    intro k i hi hk
    obtain ⟨k, rfl⟩ : ∃ m, k = m + 1 := ⟨k - 1, by omega⟩
    simp only [code_Decode.l1]
    rw [if_neg (by omega), List.drop_eq_nil_of_le (by omega)]; rfl
  | succ d ih =>
    intro k i hi hk
    obtain ⟨k, rfl⟩ : ∃ m, k = m + 1 := ⟨k - 1, by omega⟩
    rw [code_look b acc st hst hacc k i (by omega) _ (lead_eval _), ih k (i + 1) (by omega) (by omega), drop_rd acc i (by omega), List.any_cons]
    unfold look badB
    by_cases h1 : leadB (rd_T36 acc i).f1 = true
    · rw [if_pos h1, h1, Bool.true_and]
      by_cases h2 : (rd_T36 acc i).f2 < 0
      · rw [if_pos h2, decide_eq_true h2]; rfl
      · rw [if_neg h2, decide_eq_false h2, Bool.false_or]
        by_cases h3 : (rd_T36 acc i).f2 ≥ (b.length : Int)
        · rw [if_pos h3, decide_eq_true h3]; rfl
        · rw [if_neg h3, decide_eq_false h3, Bool.false_or]
          by_cases h4 : rdOf false st (rd_T36 acc i).f2 = true
          · rw [if_pos h4, h4]; rfl
          · rw [if_neg h4]
            have : rdOf false st (rd_T36 acc i).f2 = false := by simpa using h4
            rw [this]; rfl
    · rw [if_neg h1]
      have : leadB (rd_T36 acc i).f1 = false := by simpa using h1
      rw [this]; rfl

theorem starts_at (t : List S36) : ∀ (st : List Bool) (x : Nat), x < st.length → (t.foldl (fun s y => s.set y.f0.toNat true) st)[x]? = some ((st[x]?.getD false) || t.any (fun y => decide (y.f0.toNat = x))) := by
  induction t with
  | nil => intro st x hx; simp [List.getElem?_eq_getElem hx]
  | cons y t ih =>
    intro st x hx
    rw [List.foldl_cons, ih _ x (by simpa using hx), List.any_cons, List.getElem?_set]
    by_cases h : y.f0.toNat = x
    · subst h; simp [hx]
    · simp [h]

theorem foldl_len (t : List S36) : ∀ st : List Bool, (t.foldl (fun s y => s.set y.f0.toNat true) st).length = st.length := by
  induction t with
  | nil => intro st; rfl
  | cons y t ih => intro st; rw [List.foldl_cons, ih, List.length_set]

theorem ops_places (b : List Int) (zs t : List Int) : ∀ pre, pre ++ t = zs → ∀ x : Nat, (opsOf b (wb pre).length t).any (fun y => decide (y.f0.toNat = x)) = (List.range t.length).any (fun j => x == (wb (zs.take (pre.length + j))).length) := by
  induction t with
  | nil => intro pre hp x; rfl
  | cons n t ih =>
    intro pre hp x
    have hp' : (pre ++ [n]) ++ t = zs := by rw [← hp]; simp
    have hw : (wb (pre ++ [n])).length = (wb pre).length + (cls n + 1) := by rw [wb_snoc, List.length_append, piece_len]
    have ih' := ih (pre ++ [n]) hp' x
    rw [hw] at ih'
    show (decide ((opAt b (shOf n) (wb pre).length).f0.toNat = x) || (opsOf b ((wb pre).length + (cls n + 1)) t).any _) = _
    rw [ih', List.length_cons, List.range_succ_eq_map, List.any_cons, List.any_map, opAt_f0, Int.toNat_natCast]
    have e0 : zs.take (pre.length + 0) = pre := by rw [← hp, Nat.add_zero, List.take_left]
    rw [e0]
    congr 1
    · rw [Bool.eq_iff_iff]; simp only [decide_eq_true_eq, beq_iff_eq]; exact eq_comm
    · congr 1
      funext j
      show (x == _) = (x == (wb (zs.take (pre.length + (j + 1)))).length)
      rw [List.length_append, List.length_singleton, show pre.length + 1 + j = pre.length + (j + 1) by omega]

theorem ops_lead (b : List Int) (n : Nat) (st : List Bool) (zs t : List Int) (way : Int) (hb : b = code zs way) : ∀ pre, pre ++ t = zs → (opsOf b (wb pre).length t).any (badB n st) = false := by
  induction t with
  | nil => intro pre hp; rfl
  | cons m t ih =>
    intro pre hp
    have hp' : (pre ++ [m]) ++ t = zs := by rw [← hp]; simp
    have hw : (wb (pre ++ [m])).length = (wb pre).length + (cls m + 1) := by rw [wb_snoc, List.length_append, piece_len]
    have ih' := ih (pre ++ [m]) hp'
    rw [hw] at ih'
    show (badB n st (opAt b (shOf m) (wb pre).length) || (opsOf b ((wb pre).length + (cls m + 1)) t).any _) = false
    rw [ih', Bool.or_false]
    unfold badB
    have hcode : code zs way = wb pre ++ (piece m ++ wb t ++ [167, way / 256 % 256, way % 256]) := by
      unfold code
      rw [← hp]
      have : wb (pre ++ m :: t) = wb pre ++ (piece m ++ wb t) := by unfold wb; simp
      rw [this, List.append_assoc]
    have r0 : rd b ((wb pre).length : Int) = (piece m).headD 0 := by
      rw [hb, hcode]
      rw [List.append_assoc]; exact rd_piece _ _ _
    rw [opAt_f1, r0]
    have : leadB ((piece m).headD 0) = false := by
      unfold piece
      rcases cls_lt m with h | h | h <;> rw [h] <;> decide
    rw [this]; rfl

/-- What Decode answers: the way may lead just to where an instruction begins. -/
theorem ways_decode (zs : List Int) (hz : zs.length ≤ 300) (dst : Int) (h0 : -1 ≤ dst) (h1 : dst ≤ (wb zs).length + 3) (k : Nat) (hk : 5000 ≤ k) :
    ∃ l, code_Decode.f k (code zs (dst - (wb zs).length)) = some (if begins zs (zs.length + 1) dst = true then (l, 0) else ([], 41)) ∧ l.length = zs.length + 1 ∧ (rd_T36 l ((zs.length : Nat) : Int)).f2 = dst := by
  have hl := wb_len zs
  generalize hw : dst - ((wb zs).length : Int) = way
  have hb := code_bytes zs way
  have hlen := code_len zs way
  have hfc := fc_code zs hz way zs [] rfl
  have e0 : (wb ([] : List Int)).length = 0 := rfl
  rw [e0] at hfc
  generalize hops : opsOf (code zs way) 0 zs = ops at hfc
  have hol : ops.length = zs.length := by rw [← hops]; exact opsOf_len _ _ _
  generalize hlast : opAt (code zs way) 5 (wb zs).length = last at hfc
  have hf2 : last.f2 = dst := by
    rw [← hlast]
    have r1 : rd (code zs way) (((wb zs).length + 1 : Nat) : Int) = way / 256 % 256 := rd_app (wb zs) _ 1 (by simp)
    have r2 : rd (code zs way) (((wb zs).length + 2 : Nat) : Int) = way % 256 := rd_app (wb zs) _ 2 (by simp)
    unfold opAt
    rw [op5, r1, r2]
    show ((wb zs).length : Int) + sx16 (way / 256 % 256 * 256 + way % 256) = dst
    unfold sx16; split <;> omega
  have hf0 : last.f0.toNat = (wb zs).length := by rw [← hlast, opAt_f0, Int.toNat_natCast]
  have hf1 : last.f1 = 167 := by
    rw [← hlast, opAt_f1]; exact rd_app (wb zs) _ 0 (by simp)
  refine ⟨ops ++ [last], ?_, by simp [hol], ?_⟩
  · unfold code_Decode.f
    have g1 : (0 : Int) ≤ ((code zs way).length : Int) := by omega
    have g2 : (((code zs way).length : Int)).toNat ≤ 281474976710656 := by omega
    rw [if_neg (by omega), if_neg (by omega), if_pos g1, if_pos g2, Int.toNat_natCast]
    have hst : (List.replicate (code zs way).length false).length = (code zs way).length := List.length_replicate
    obtain ⟨k', rfl⟩ : ∃ m, k = m + (ops ++ [last]).length + 1 := ⟨k - ((ops ++ [last]).length + 1), by rw [List.length_append, List.length_singleton]; omega⟩
    have hk' : 4000 ≤ k' := by rw [List.length_append, List.length_singleton] at hk; omega
    have L := l0_FC (code zs way) hb (by omega) 0 _ hfc k' [] _ (by omega) hst (by simp; omega)
    rw [List.nil_append] at L
    have L' : code_Decode.l0 (k' + (ops ++ [last]).length + 1) (code zs way) [] (List.replicate (code zs way).length false) 0 = _ := L
    refine (L'.trans (l1_eval _ _ _ (by rw [foldl_len]; exact hst) (by simp; omega) (ops ++ [last]).length k' 0 (by omega) (by rw [List.length_append, List.length_singleton]; omega))).trans ?_
    rw [List.drop_zero, List.any_append]
    have hn : ops.any (badB (code zs way).length (List.foldl (fun s x => s.set x.f0.toNat true) (List.replicate (code zs way).length false) (ops ++ [last]))) = false := by
      rw [← hops]; exact ops_lead _ _ _ zs zs way rfl [] rfl
    rw [hn, Bool.false_or]
    have hbad : [last].any (badB (code zs way).length (List.foldl (fun s x => s.set x.f0.toNat true) (List.replicate (code zs way).length false) (ops ++ [last]))) = !begins zs (zs.length + 1) dst := by
      rw [List.any_cons, List.any_nil, Bool.or_false]
      unfold badB
      rw [hf1, hf2]
      have hlead : leadB 167 = true := by decide
      rw [hlead, Bool.true_and]
      by_cases n0 : dst < 0
      · rw [decide_eq_true n0, Bool.true_or]
        have : begins zs (zs.length + 1) dst = false := by
          unfold begins
          rw [List.any_eq_false]
          intro j _
          simp; omega
        rw [this]; rfl
      · rw [decide_eq_false n0, Bool.false_or]
        have hmono : ∀ j, (wb (zs.take j)).length ≤ (wb zs).length := by
          intro j
          have : wb zs = wb (zs.take j) ++ wb (zs.drop j) := by
            rw [← wb_app, List.take_append_drop]
          rw [this, List.length_append]; omega
        by_cases n1 : dst ≥ ((code zs way).length : Int)
        · rw [decide_eq_true n1, Bool.true_or]
          have : begins zs (zs.length + 1) dst = false := by
            unfold begins
            rw [List.any_eq_false]
            intro j _
            have := hmono j
            simp; omega
          rw [this]; rfl
        · rw [decide_eq_false n1, Bool.false_or]
          congr 1
          obtain ⟨x, rfl⟩ : ∃ x : Nat, dst = x := ⟨dst.toNat, by omega⟩
          have hx : x < (List.replicate (code zs way).length false).length := by rw [hst]; omega
          unfold rdOf
          rw [Int.toNat_natCast, List.getD_eq_getElem?_getD, starts_at _ _ x hx, Option.getD_some]
          have hf : (List.replicate (code zs way).length false)[x]?.getD false = false := by
            rw [List.getElem?_replicate]; split <;> rfl
          rw [hf, Bool.false_or, List.any_append, ← hops]
          have := ops_places (code zs way) zs zs [] rfl x
          rw [e0] at this
          rw [this, List.any_cons, List.any_nil, Bool.or_false, hf0, begins_succ, List.take_length]
          congr 1
          · unfold begins
            congr 1
            funext j
            rw [List.length_nil, Nat.zero_add, Bool.eq_iff_iff, beq_iff_eq, beq_iff_eq]
            omega
          · rw [Bool.eq_iff_iff]; simp only [decide_eq_true_eq, beq_iff_eq]; omega
    rw [hbad]
    cases begins zs (zs.length + 1) dst <;> rfl
  · unfold rd_T36
    rw [Int.toNat_natCast, List.getD_eq_getElem?_getD, List.getElem?_append_right (by omega), hol, Nat.sub_self]
    exact hf2

end Go.Proofs.Ytbicilgcmopidaa.PAll
