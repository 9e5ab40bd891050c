import Derived.Test.YtibhjlmffgabgaaZHolds
namespace Go.Proofs.Ytibhjlmffgabgaa.PAll
open Go.Proofs.Ytibhjlmffgabgaa.MapInt
set_option linter.unusedVariables false
set_option linter.unusedSimpArgs false
def chS : List S65 := [⟨[true, false], false, false⟩, ⟨[], true, false⟩]
def nod (nx i : Int) : Thg := ⟨0, [nx, i]⟩
def arr (r : Nat) : Thg := ⟨1, List.replicate r 0⟩
theorem nod_tsz (x i : Int) : tsz chS (nod x i) = 3 := rfl
theorem arr_tsz (r : Nat) : tsz chS (arr r) = r + 2 := by
  unfold tsz arr
  have : (shOf chS 1).f1 = true := rfl
  rw [this, if_pos rfl, List.length_replicate]; omega
def chT : Nat → Nat → List Nat → List Thg
  | _, _, [] => []
  | b, i, r :: rs => nod (if rs = [] then 0 else ((b + 5 + r : Nat) : Int)) i :: arr r :: chT (b + 5 + r) (i + 1) rs
theorem keepT_cons (shs : List S65) (S : Int → Bool) (t : Thg) (T : List Thg) (b : Nat) : keepT shs S (t :: T) b = if S (b : Int) = true then t :: keepT shs S T (b + tsz shs t) else keepT shs S T (b + tsz shs t) := rfl
theorem toF_cons (shs : List S65) (S : Int → Bool) (t : Thg) (T : List Thg) (b c : Nat) (x : Int) : toF shs S (t :: T) b c x = if S (b : Int) = true then (if x = (b : Int) then some (c : Int) else toF shs S T (b + tsz shs t) (c + tsz shs t) x) else toF shs S T (b + tsz shs t) c x := rfl
theorem chT_cons (b i r : Nat) (rs : List Nat) : chT b i (r :: rs) = nod (if rs = [] then 0 else ((b + 5 + r : Nat) : Int)) i :: arr r :: chT (b + 5 + r) (i + 1) rs := rfl
def sumR : List Nat → Nat
  | [] => 0
  | r :: rs => 5 + r + sumR rs
def lastA : Nat → List Nat → Nat
  | _, [] => 0
  | b, r :: rs => if rs = [] then b else lastA (b + 5 + r) rs
theorem ch_sum : ∀ (rs : List Nat) (b i : Nat), sumT chS (chT b i rs) = sumR rs
  | [], b, i => rfl
  | r :: rs, b, i => by
    unfold chT sumR
    rw [sum_cons, sum_cons, nod_tsz, arr_tsz, ch_sum rs]; omega
theorem sumR_le : ∀ (rs : List Nat), (∀ r ∈ rs, r ≤ 49) → sumR rs ≤ 54 * rs.length
  | [], h => by simp [sumR]
  | r :: rs, h => by
    have h1 := h r (by simp)
    have h2 := sumR_le rs (fun x hx => h x (by simp [hx]))
    unfold sumR; rw [List.length_cons]; omega
theorem lastA_ge : ∀ (rs : List Nat) (b : Nat), rs ≠ [] → b ≤ lastA b rs
  | [], b, h => absurd rfl h
  | r :: rs, b, h => by
    unfold lastA
    split
    · exact Nat.le_refl _
    · rename_i h1; have := lastA_ge rs (b + 5 + r) h1; omega
theorem lastA_lt : ∀ (rs : List Nat) (b : Nat), rs ≠ [] → lastA b rs < b + sumR rs
  | [], b, h => absurd rfl h
  | r :: rs, b, h => by
    unfold lastA sumR
    split
    · omega
    · rename_i h1; have := lastA_lt rs (b + 5 + r) h1; omega
theorem lastA_snoc : ∀ (rs : List Nat) (r : Nat) (b : Nat), lastA b (rs ++ [r]) = b + sumR rs
  | [], r, b => rfl
  | u :: rs, r, b => by
    rw [List.cons_append]
    unfold lastA sumR
    rw [if_neg (by simp), lastA_snoc rs]; omega
theorem ch_snoc (r : Nat) : ∀ (rs : List Nat) (b i : Nat) (x : Int), rs ≠ [] → x = ((b + sumR rs : Nat) : Int) →
    setT chS (chT b i rs ++ [nod 0 ((i + rs.length : Nat) : Int)]) b (lastA b rs : Nat) 0 x ++ [arr r] = chT b i (rs ++ [r])
  | [], b, i, x, h, _ => absurd rfl h
  | u :: rs, b, i, x, h, hx => by
    rw [List.cons_append]
    by_cases h1 : rs = []
    · subst h1
      unfold chT lastA
      rw [if_pos rfl, if_pos rfl, List.nil_append, if_neg (by simp)]
      unfold chT
      rw [if_pos rfl]
      unfold chT
      rw [List.cons_append]
      unfold setT
      rw [if_pos rfl]
      have e : (nod 0 (i : Int)).put 0 x = nod x i := rfl
      rw [e, hx]
      simp [sumR, Nat.add_assoc]
    · have hl := lastA_ge rs (b + 5 + u) h1
      have ih := ch_snoc r rs (b + 5 + u) (i + 1) x h1 (by rw [hx]; have : sumR (u :: rs) = 5 + u + sumR rs := rfl; rw [this]; congr 1; omega)
      unfold chT lastA
      rw [if_neg h1, if_neg h1, if_neg (by simp)]
      rw [List.cons_append, List.cons_append]
      unfold setT
      rw [if_neg (by omega), nod_tsz]
      unfold setT
      rw [if_neg (by omega), arr_tsz]
      have e1 : b + 3 + (u + 2) = b + 5 + u := by omega
      have e2 : i + (u :: rs).length = i + 1 + rs.length := by simp; omega
      rw [e1, e2, List.cons_append, List.cons_append, ih]
def nodA : Nat → List Nat → List Int
  | _, [] => []
  | b, r :: rs => (b : Int) :: nodA (b + 5 + r) rs
theorem nodA_ge : ∀ (rs : List Nat) (b : Nat) (x : Int), x ∈ nodA b rs → (b : Int) ≤ x ∧ x < b + sumR rs
  | [], b, x, h => by cases h
  | r :: rs, b, x, h => by
    unfold nodA at h
    unfold sumR
    rcases List.mem_cons.1 h with e | e
    · subst e; omega
    · have := nodA_ge rs _ x e; omega
theorem ch_find : ∀ (rs : List Nat) (b i : Nat) (x : Int), x ∈ nodA b rs → ∃ nx j, findT chS (chT b i rs) b x = some (nod nx j) ∧ (nx = 0 ∨ nx ∈ nodA b rs)
  | [], b, i, x, h => by cases h
  | r :: rs, b, i, x, h => by
    unfold nodA at h
    unfold chT findT nodA
    rcases List.mem_cons.1 h with e | e
    · subst e
      rw [if_pos rfl]
      refine ⟨_, _, rfl, ?_⟩
      split
      · exact .inl rfl
      · rename_i h1
        right
        cases rs with
        | nil => exact absurd rfl h1
        | cons u rs => unfold nodA; simp
    · have hx := (nodA_ge rs _ x e).1
      obtain ⟨nx, j, h1, h2⟩ := ch_find rs (b + 5 + r) (i + 1) x e
      rw [if_neg (by omega), nod_tsz]
      unfold findT
      rw [if_neg (by omega), arr_tsz, show b + 3 + (r + 2) = b + 5 + r by omega]
      exact ⟨nx, j, h1, h2.imp id (fun h => by simp [h])⟩
theorem ch_found0 (rs : List Nat) (i : Nat) : findT chS (chT 1 i rs) 1 0 = none := by
  cases h : findT chS (chT 1 i rs) 1 0 with
  | none => rfl
  | some t => have := (find_ge _ _ _ _ h).1; omega
theorem nod_ref {nx j : Int} {i : Nat} (h : i < (nod nx j).xs.length) (hr : isR chS (nod nx j) i = true) : (nod nx j).xs.getD i 0 = nx := by
  have h2 : i < 2 := h
  have : i = 0 ∨ i = 1 := by omega
  rcases this with rfl | rfl
  · rfl
  · exact absurd hr (by show ¬ (isR chS ⟨0, [nx, j]⟩ 1 = true); simp [isR, chS, shOf])
theorem ch_rch {rs : List Nat} {x : Int} (h : Rch chS (chT 1 0 rs) [1] x) : x ∈ nodA 1 rs := by
  induction h with
  | root h1 h2 =>
    cases rs with
    | nil => cases h2
    | cons r rs => simp at h1; subst h1; unfold nodA; simp
  | step h1 h2 h3 h4 h5 ih =>
    obtain ⟨nx, j, h6, h7⟩ := ch_find _ _ 0 _ ih
    rw [h2] at h6
    injection h6 with h6
    subst h6
    rw [nod_ref h3 h4] at h5 ⊢
    rcases h7 with rfl | h7
    · rw [ch_found0] at h5; cases h5
    · exact h7
theorem ch_next : ∀ (rs : List Nat) (b i : Nat) (P : Int → Prop), (rs ≠ [] → P b) → (∀ x nx j, x ∈ nodA b rs → P x → findT chS (chT b i rs) b x = some (nod nx j) → nx ∈ nodA b rs → P nx) → ∀ x ∈ nodA b rs, P x
  | [], b, i, P, _, _, x, h => by cases h
  | r :: rs, b, i, P, h0, hs, x, h => by
    unfold nodA at h
    rcases List.mem_cons.1 h with e | e
    · subst e; exact h0 (by simp)
    · refine ch_next rs (b + 5 + r) (i + 1) P (fun hne => ?_) (fun x nx j hx hp hf hn => ?_) x e
      · refine hs b _ _ (by unfold nodA; simp) (h0 (by simp)) (by unfold chT findT; rw [if_pos rfl, if_neg hne]) ?_
        cases rs with
        | nil => exact absurd rfl hne
        | cons u rs => unfold nodA; unfold nodA; simp
      · have h1 := (nodA_ge rs _ x hx).1
        refine hs x nx j (by unfold nodA; simp [hx]) hp ?_ (by unfold nodA; simp [hn])
        unfold chT findT
        rw [if_neg (by omega), nod_tsz]
        unfold findT
        rw [if_neg (by omega), arr_tsz, show b + 3 + (r + 2) = b + 5 + r by omega]
        exact hf
theorem ch_all {rs : List Nat} {x : Int} (h : x ∈ nodA 1 rs) : Rch chS (chT 1 0 rs) [1] x := by
  refine ch_next rs 1 0 (Rch chS (chT 1 0 rs) [1]) (fun hne => ?_) (fun x nx j hx hp hf hn => ?_) x h
  · refine .root (by simp) ?_
    cases rs with
    | nil => exact absurd rfl hne
    | cons u rs => unfold chT findT; rw [if_pos rfl]; rfl
  · obtain ⟨n2, j2, h1, _⟩ := ch_find _ _ 0 _ hn
    exact .step (i := 0) hp hf (by show 0 < 2; decide) (by rfl) (by show (findT chS (chT 1 0 rs) 1 nx).isSome = true; rw [h1]; rfl)
theorem ch_S {rs : List Nat} {S : Int → Bool} (h : ∀ x, S x = true ↔ Rch chS (chT 1 0 rs) [1] x) : ∀ x, S x = true ↔ x ∈ nodA 1 rs := fun x => (h x).trans ⟨ch_rch, ch_all⟩
def outL : Nat → Nat → Nat → List Thg
  | _, _, 0 => []
  | c, i, n + 1 => nod (if n = 0 then 0 else ((c + 3 : Nat) : Int)) i :: outL (c + 3) (i + 1) n
theorem out_sum : ∀ (n c i : Nat), sumT chS (outL c i n) = 3 * n
  | 0, c, i => rfl
  | n + 1, c, i => by unfold outL; rw [sum_cons, nod_tsz, out_sum n]; omega
theorem S_arr {S : Int → Bool} {b r : Nat} {rs : List Nat} (h : ∀ x : Int, (b : Int) ≤ x → (S x = true ↔ x ∈ nodA b (r :: rs))) : S (b : Int) = true ∧ S ((b + 3 : Nat) : Int) = false ∧ ∀ x : Int, ((b + 5 + r : Nat) : Int) ≤ x → (S x = true ↔ x ∈ nodA (b + 5 + r) rs) := by
  refine ⟨(h b (Int.le_refl _)).2 (by unfold nodA; simp), ?_, fun x hx => ?_⟩
  · cases e : S ((b + 3 : Nat) : Int) with
    | false => rfl
    | true =>
      have := (h _ (by omega)).1 e
      unfold nodA at this
      rcases List.mem_cons.1 this with e | e
      · omega
      · have := (nodA_ge _ _ _ e).1; omega
  · rw [h x (by omega)]
    have e0 : nodA b (r :: rs) = (b : Int) :: nodA (b + 5 + r) rs := rfl
    rw [e0]
    constructor
    · intro hm
      rcases List.mem_cons.1 hm with e | e
      · omega
      · exact e
    · intro hm; exact List.mem_cons.2 (.inr hm)
theorem ch_clr (S : Int → Bool) (F : Int → Option Int) (hF0 : F 0 = none) : ∀ (rs : List Nat) (b i c : Nat), (∀ x : Int, (b : Int) ≤ x → (S x = true ↔ x ∈ nodA b rs)) → (∀ x : Int, (b : Int) ≤ x → F x = toF chS S (chT b i rs) b c x) →
    (keepT chS S (chT b i rs) b).map (mvT chS F) = outL c i rs.length
  | [], b, i, c, _, _ => rfl
  | r :: rs, b, i, c, hS, hF => by
    obtain ⟨s1, s2, s3⟩ := S_arr hS
    have hF2 : ∀ x : Int, ((b + 5 + r : Nat) : Int) ≤ x → F x = toF chS S (chT (b + 5 + r) (i + 1) rs) (b + 5 + r) (c + 3) x := fun x hx => by
      rw [hF x (by omega)]
      rw [chT_cons, toF_cons, if_pos s1, if_neg (by omega), nod_tsz, toF_cons, if_neg (by rw [s2]; decide), arr_tsz, show b + 3 + (r + 2) = b + 5 + r by omega]
    have ih := ch_clr S F hF0 rs (b + 5 + r) (i + 1) (c + 3) s3 hF2
    have s2' : ¬ S ((b + 3 : Nat) : Int) = true := by rw [s2]; decide
    rw [chT_cons, keepT_cons, if_pos s1, nod_tsz, keepT_cons, if_neg s2', arr_tsz, show b + 3 + (r + 2) = b + 5 + r by omega, List.map_cons, ih, List.length_cons]
    have e0 : outL c i (rs.length + 1) = nod (if rs.length = 0 then 0 else ((c + 3 : Nat) : Int)) i :: outL (c + 3) (i + 1) rs.length := rfl
    rw [e0]
    congr 1
    have e : mvT chS F (nod (if rs = [] then 0 else ((b + 5 + r : Nat) : Int)) i) = nod (ref1 F (if rs = [] then 0 else ((b + 5 + r : Nat) : Int))) i := rfl
    rw [e]
    congr 1
    cases rs with
    | nil => rw [if_pos rfl]; unfold ref1; rw [hF0]; rfl
    | cons u rs =>
      rw [if_neg (by simp), if_neg (by simp)]
      unfold ref1
      rw [hF2 _ (Int.le_refl _)]
      rw [chT_cons, toF_cons, if_pos (S_arr s3).1, if_pos rfl]
      rfl
theorem ch_clear {rs : List Nat} {S : Int → Bool} (h : ∀ x, S x = true ↔ Rch chS (chT 1 0 rs) [1] x) : clrT chS S (chT 1 0 rs) = outL 1 0 rs.length ∧ (rs ≠ [] → ref1 (newF chS S (chT 1 0 rs)) 1 = 1) := by
  have hS := ch_S h
  constructor
  · unfold clrT
    refine ch_clr S _ ?_ rs 1 0 1 (fun x _ => hS x) (fun x _ => rfl)
    cases e : newF chS S (chT 1 0 rs) 0 with
    | none => rfl
    | some y => have := (toF_range _ _ _ _ _ _ _ e).1; omega
  · intro hne
    cases rs with
    | nil => exact absurd rfl hne
    | cons r rs =>
      unfold ref1 newF
      rw [chT_cons, toF_cons, if_pos (S_arr (fun x _ => hS x)).1]
      rfl
theorem out_find : ∀ (n c i j : Nat), j < n → findT chS (outL c i n) c ((c + 3 * j : Nat) : Int) = some (nod (if j + 1 = n then 0 else ((c + 3 * (j + 1) : Nat) : Int)) ((i + j : Nat) : Int))
  | 0, c, i, j, h => by omega
  | n + 1, c, i, j, h => by
    unfold outL findT
    cases j with
    | zero =>
      rw [if_pos (by simp)]
      congr 2
      by_cases hn : n = 0
      · rw [if_pos hn, if_pos (by omega)]
      · rw [if_neg hn, if_neg (by omega)]
    | succ j =>
      rw [if_neg (by omega), nod_tsz]
      have := out_find n (c + 3) (i + 1) j (by omega)
      rw [show c + 3 * (j + 1) = c + 3 + 3 * j by omega, this]
      congr 2
      · by_cases hn : j + 1 = n
        · rw [if_pos hn, if_pos (by omega)]
        · rw [if_neg hn, if_neg (by omega)]; congr 1; omega
      · congr 1; omega
theorem out_get {n j : Nat} (h : j < n) : getF chS (outL 1 0 n) (((1 + 3 * j : Nat)) : Int) 1 = (j : Int) ∧ getF chS (outL 1 0 n) (((1 + 3 * j : Nat)) : Int) 0 = (if j + 1 = n then 0 else ((1 + 3 * (j + 1) : Nat) : Int)) ∧ shapeT (findT chS (outL 1 0 n) 1 (((1 + 3 * j : Nat)) : Int)) = 0 := by
  have := out_find n 1 0 j h
  unfold getF
  rw [this]
  refine ⟨?_, ?_, rfl⟩
  · show ((0 + j : Nat) : Int) = j; rw [Nat.zero_add]
  · rfl
theorem keep_all (shs : List S65) {S : Int → Bool} : ∀ (T : List Thg) (b : Nat), (∀ x, (findT shs T b x).isSome = true → S x = true) → keepT shs S T b = T
  | [], b, h => rfl
  | t :: T, b, h => by
    have hp := tsz_pos shs t
    unfold keepT
    rw [if_pos (h b (by unfold findT; rw [if_pos rfl]; rfl)), keep_all shs T _ (fun x hx => h x (by
      unfold findT
      split
      · rfl
      · exact hx))]
theorem out_rch {n : Nat} : ∀ j, j < n → Rch chS (outL 1 0 n) [1] ((1 + 3 * j : Nat) : Int)
  | 0, h => .root (by simp) (by have := out_find n 1 0 0 h; rw [this]; rfl)
  | j + 1, h => by
    have h1 := out_rch (n := n) j (by omega)
    have h2 := out_find n 1 0 j (by omega)
    have h3 := out_find n 1 0 (j + 1) h
    rw [if_neg (by omega)] at h2
    exact .step (i := 0) h1 h2 (by show 0 < 2; decide) (by rfl) (by show (findT chS (outL 1 0 n) 1 ((1 + 3 * (j + 1) : Nat) : Int)).isSome = true; rw [h3]; rfl)
theorem out_isat : ∀ (n c i : Nat) (x : Int), (findT chS (outL c i n) c x).isSome = true → ∃ j : Nat, j < n ∧ x = ((c + 3 * j : Nat) : Int)
  | 0, c, i, x, h => by cases h
  | n + 1, c, i, x, h => by
    unfold outL findT at h
    split at h
    · rename_i h1; exact ⟨0, by omega, by rw [← h1]; simp⟩
    · rw [nod_tsz] at h
      obtain ⟨j, h1, h2⟩ := out_isat n (c + 3) (i + 1) x h
      exact ⟨j + 1, by omega, by rw [h2]; congr 1; omega⟩
theorem out_reached {n : Nat} {S : Int → Bool} (h : ∀ x, S x = true ↔ Rch chS (outL 1 0 n) [1] x) : sumT chS (keepT chS S (outL 1 0 n) 1) = 3 * n := by
  rw [keep_all, out_sum]
  intro x hx
  obtain ⟨j, h1, rfl⟩ := out_isat n 1 0 x hx
  exact (h _).2 (out_rch j h1)
end Go.Proofs.Ytibhjlmffgabgaa.PAll
