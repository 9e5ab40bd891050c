import Derived.Test.YtibhjlmffgabgaaZHolds
namespace Go.Proofs.Ytibhjlmffgabgaa.PAll
open Go.Proofs.Ytibhjlmffgabgaa.MapInt
set_option linter.unusedVariables false
set_option linter.unusedSimpArgs false
def chS : List S65 := [⟨[true, false], false, false⟩, ⟨[], true, false⟩]
def nod (nx i : Int) : Thg := ⟨0, [nx, i]⟩
def arr (r : Nat) : Thg := ⟨1, List.replicate r 0⟩
theorem nod_tsz (x i : Int) : tsz chS (nod x i) = 3 := rfl
theorem arr_tsz (r : Nat) : tsz chS (arr r) = r + 2 := by
  unfold tsz arr
  have : (shOf chS 1).f1 = true := rfl
  rw [this, if_pos rfl, List.length_replicate]; omega
def chT : Nat → Nat → List Nat → List Thg
  | _, _, [] => []
  | b, i, r :: rs => nod (if rs = [] then 0 else ((b + 5 + r : Nat) : Int)) i :: arr r :: chT (b + 5 + r) (i + 1) rs
def sumR : List Nat → Nat
  | [] => 0
  | r :: rs => 5 + r + sumR rs
theorem ch_sum : ∀ (rs : List Nat) (b i : Nat), sumT chS (chT b i rs) = sumR rs
  | [], b, i => rfl
  | r :: rs, b, i => by
    unfold chT sumR
    rw [sum_cons, sum_cons, nod_tsz, arr_tsz, ch_sum rs]; omega
theorem sumR_le : ∀ (rs : List Nat), (∀ r ∈ rs, r ≤ 49) → sumR rs ≤ 54 * rs.length
  | [], h => by simp [sumR]
  | r :: rs, h => by
    have h1 := h r (by simp)
    have h2 := sumR_le rs (fun x hx => h x (by simp [hx]))
    unfold sumR; rw [List.length_cons]; omega
def outL : Nat → Nat → Nat → List Thg
  | _, _, 0 => []
  | c, i, n + 1 => nod (if n = 0 then 0 else ((c + 3 : Nat) : Int)) i :: outL (c + 3) (i + 1) n
end Go.Proofs.Ytibhjlmffgabgaa.PAll
