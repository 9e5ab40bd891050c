/- For all texts: kinds, classes and elements of types are told as the document has them. No condition. -/
import Derived.Test.YtbbogkhidaekoaaParts
namespace Go.Proofs.Ytbbogkhidaekoaa.Pure
open Go.RowKit Go.Proofs.Ytbbogkhidaekoaa.PAll Go.Proofs.YtbbogkhidaekoaaW.PrintWords Go.Proofs.YtbbogkhidaekoaaW.PrintLast

theorem DescParts : regletlaw02_DescParts.Pure := by
  intro s hs
  obtain ⟨l, rfl⟩ := ba_ex s
  rw [ba_size] at hs
  have hl : l.length ≤ big := by unfold big; omega
  refine ⟨200, ?_⟩
  unfold regletlaw02_DescParts.f
  rw [holds_some _ (by omega), Option.bind_some, if_pos rfl, kind_eval, Option.bind_some, rkind_eval, Option.bind_some, if_pos rfl, of_eval l hl, Option.bind_some, rof_eval l hl, Option.bind_some, if_pos rfl,
    class_eval l hl, Option.bind_some, rclass_eval l hl, Option.bind_some, if_pos rfl, elem_eval, Option.bind_some, relem_eval, Option.bind_some]
  simp

end Go.Proofs.Ytbbogkhidaekoaa.Pure
