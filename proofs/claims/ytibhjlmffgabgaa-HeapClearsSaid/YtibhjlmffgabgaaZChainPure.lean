import Derived.Test.YtibhjlmffgabgaaZHolds
namespace Go.Proofs.Ytibhjlmffgabgaa.PAll
open Go.Proofs.Ytibhjlmffgabgaa.MapInt
set_option linter.unusedVariables false
set_option linter.unusedSimpArgs false
def chS : List S65 := [⟨[true, false], false, false⟩, ⟨[], true, false⟩]
def nod (nx i : Int) : Thg := ⟨0, [nx, i]⟩
def arr (r : Nat) : Thg := ⟨1, List.replicate r 0⟩
theorem nod_tsz (x i : Int) : tsz chS (nod x i) = 3 := rfl
theorem arr_tsz (r : Nat) : tsz chS (arr r) = r + 2 := by
  unfold tsz arr
  have : (shOf chS 1).f1 = true := rfl
  rw [this, if_pos rfl, List.length_replicate]; omega
def chT : Nat → Nat → List Nat → List Thg
  | _, _, [] => []
  | b, i, r :: rs => nod (if rs = [] then 0 else ((b + 5 + r : Nat) : Int)) i :: arr r :: chT (b + 5 + r) (i + 1) rs
theorem keepT_cons (shs : List S65) (S : Int → Bool) (t : Thg) (T : List Thg) (b : Nat) : keepT shs S (t :: T) b = if S (b : Int) = true then t :: keepT shs S T (b + tsz shs t) else keepT shs S T (b + tsz shs t) := rfl
theorem toF_cons (shs : List S65) (S : Int → Bool) (t : Thg) (T : List Thg) (b c : Nat) (x : Int) : toF shs S (t :: T) b c x = if S (b : Int) = true then (if x = (b : Int) then some (c : Int) else toF shs S T (b + tsz shs t) (c + tsz shs t) x) else toF shs S T (b + tsz shs t) c x := rfl
def sumR : List Nat → Nat
  | [] => 0
  | r :: rs => 5 + r + sumR rs
theorem ch_sum : ∀ (rs : List Nat) (b i : Nat), sumT chS (chT b i rs) = sumR rs
  | [], b, i => rfl
  | r :: rs, b, i => by
    unfold chT sumR
    rw [sum_cons, sum_cons, nod_tsz, arr_tsz, ch_sum rs]; omega
theorem sumR_le : ∀ (rs : List Nat), (∀ r ∈ rs, r ≤ 49) → sumR rs ≤ 54 * rs.length
  | [], h => by simp [sumR]
  | r :: rs, h => by
    have h1 := h r (by simp)
    have h2 := sumR_le rs (fun x hx => h x (by simp [hx]))
    unfold sumR; rw [List.length_cons]; omega
def outL : Nat → Nat → Nat → List Thg
  | _, _, 0 => []
  | c, i, n + 1 => nod (if n = 0 then 0 else ((c + 3 : Nat) : Int)) i :: outL (c + 3) (i + 1) n
theorem keep_all (shs : List S65) {S : Int → Bool} : ∀ (T : List Thg) (b : Nat), (∀ x, (findT shs T b x).isSome = true → S x = true) → keepT shs S T b = T
  | [], b, h => rfl
  | t :: T, b, h => by
    have hp := tsz_pos shs t
    unfold keepT
    rw [if_pos (h b (by unfold findT; rw [if_pos rfl]; rfl)), keep_all shs T _ (fun x hx => h x (by
      unfold findT
      split
      · rfl
      · exact hx))]
end Go.Proofs.Ytibhjlmffgabgaa.PAll
