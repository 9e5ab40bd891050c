/- For all texts (of at most 2^47 bytes, as the form bounds every text): names and types are taken just as the document has them. No condition. -/
import Derived.Test.YtbbogkhidaekoaaEvalR
namespace Go.Proofs.Ytbbogkhidaekoaa.Pure
open Go.RowKit Go.Proofs.Ytbbogkhidaekoaa.PAll Go.Proofs.YtbbogkhidaekoaaW.PrintWords Go.Proofs.YtbbogkhidaekoaaW.PrintLast

theorem DescNames : regletlaw02_DescNames.Pure := by
  intro s hs
  obtain ⟨l, rfl⟩ := ba_ex s
  rw [ba_size] at hs
  have hl : l.length ≤ big := by unfold big; omega
  refine ⟨2 * l.length + 200, ?_⟩
  unfold regletlaw02_DescNames.f
  rw [holds_some _ (by omega), Option.bind_some, if_pos rfl, name_eval l false hl, Option.bind_some, rname_eval l false hl _ (by omega), Option.bind_some, if_pos (by simp), name_eval l true hl, Option.bind_some,
    rname_eval l true hl _ (by omega), Option.bind_some, if_pos (by simp), type_eval l hl _ (by omega), Option.bind_some, rtype_eval l hl _ (by omega), Option.bind_some]
  simp

end Go.Proofs.Ytbbogkhidaekoaa.Pure
