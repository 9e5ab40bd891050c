/- For all texts: methods' descriptors are taken apart, or refused, as the document has it (longer ones than 3000 bytes are passed over by the statement itself). No condition. -/
import Derived.Test.YtbbogkhidaekoaaPAllx9
import Derived.Test.YtbbogkhidaekoaaSame
namespace Go.Proofs.Ytbbogkhidaekoaa.Pure
open Go.RowKit Go.Proofs.Ytbbogkhidaekoaa.PAll Go.Proofs.YtbbogkhidaekoaaW.PrintWords Go.Proofs.YtbbogkhidaekoaaW.PrintLast

theorem DescMethods : regletlaw02_DescMethods.Pure := by
  intro s hs
  obtain ⟨l, rfl⟩ := ba_ex s
  rw [ba_size] at hs
  have hl : l.length ≤ big := by unfold big; omega
  obtain ⟨K, hK⟩ := rmeth_eval l hl
  refine ⟨K + 4 * l.length + 200, ?_⟩
  unfold regletlaw02_DescMethods.f
  rw [holds_some _ (by omega), Option.bind_some, if_pos rfl]
  by_cases h : ((ba l).size : Int) > 3000
  · rw [if_pos h]
  have hlen := methAll_len l
  rw [if_neg h, meth_eval l hl _ (by omega), Option.bind_some, hK _ (by omega), Option.bind_some, if_pos rfl, if_pos rfl, same_some _ _ (by omega) _ (by omega), Option.bind_some]
  simp

end Go.Proofs.Ytbbogkhidaekoaa.Pure
