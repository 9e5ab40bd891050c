/- For all bytes: code is taken apart, or refused, as the document has it. No condition. -/
import Derived.Test.YtbicilgcmopidaaPAllx8
import Derived.Test.YtbicilgcmopidaaDecode
namespace Go.Proofs.Ytbicilgcmopidaa.PAll
open Go.RowKit Go.Proofs.YtbicilgcmopidaaW.PrintWords Go.Proofs.YtbicilgcmopidaaW.PrintLast

theorem same_self (l : List S36) (hl : l.length < 1000000) (d : Nat) : ∀ (k i : Nat), i + d = l.length → d < k → regletref06_Same.l0 k l l i = some true := by
  induction d with
  | zero =>
    intro k i hi hk
    obtain ⟨k, rfl⟩ : ∃ m, k = m + 1 := ⟨k - 1, by omega⟩
    simp only [regletref06_Same.l0]; rw [if_neg (by omega)]
  | succ d ih =>
    intro k i hi hk
    obtain ⟨k, rfl⟩ : ∃ m, k = m + 1 := ⟨k - 1, by omega⟩
    have hw : wrap64 ((i : Int) + 1) = ((i + 1 : Nat) : Int) := by unfold wrap64; omega
    simp only [regletref06_Same.l0]
    rw [if_pos (by omega), if_pos (by omega), if_pos (by omega), if_neg (by simp), hw]
    exact ih k (i + 1) (by omega) (by omega)

theorem bytes_of (b : List Int) (h : ∀ x ∈ b, (Lit.int .u8 x).wf = true) : Bytes b := by
  intro x hx
  have := h x hx
  simp [Lit.wf, IntKind.min, IntKind.max, IntKind.signed, IntKind.bits] at this
  omega
end Go.Proofs.Ytbicilgcmopidaa.PAll
namespace Go.Proofs.Ytbicilgcmopidaa.Pure
open Go.RowKit Go.Proofs.Ytbicilgcmopidaa.PAll Go.Proofs.YtbicilgcmopidaaW.PrintWords Go.Proofs.YtbicilgcmopidaaW.PrintLast

theorem CodeDecodes : regletlaw06_CodeDecodes.Pure := by
  intro b _ _ hb
  have hB := bytes_of b hb
  obtain ⟨R, h1, h2, hl⟩ := decode_same b hB 25000 (by decide)
  refine ⟨25000, ?_⟩
  unfold regletlaw06_CodeDecodes.f
  rw [holds_some 25000 (by decide), Option.bind_some, if_pos rfl, h1, Option.bind_some, h2, Option.bind_some, if_pos rfl]
  unfold regletref06_Same.f
  have hs : regletref06_Same.l0 25000 R.1 R.1 0 = some true := same_self R.1 (by omega) R.1.length 25000 0 (by omega) (by omega)
  rw [if_pos rfl, hs, Option.bind_some]

end Go.Proofs.Ytbicilgcmopidaa.Pure
