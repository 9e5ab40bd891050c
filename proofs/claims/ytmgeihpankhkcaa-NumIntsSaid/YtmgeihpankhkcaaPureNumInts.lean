/- For all codes and all pairs of int32 numbers: what an instruction makes of them is what the document has. No condition. -/
import Derived.Test.YtmgeihpankhkcaaPAllx5
import Derived.Test.YtmgeihpankhkcaaMakeAll
namespace Go.Proofs.Ytmgeihpankhkcaa.Pure
open Go.RowKit Go.Proofs.Ytmgeihpankhkcaa.PAll Go.Proofs.YtmgeihpankhkcaaW.PrintWords Go.Proofs.YtmgeihpankhkcaaW.PrintLast Go.Proofs.Ytmgeihpankhkcaa.Plain

theorem NumInts : regletlaw01_NumInts.Pure := by
  intro code a b hc ha hb
  refine ⟨1000 + 1, ?_⟩
  have hA := wf32 ha
  have hB := wf32 hb
  obtain ⟨r, h1, h2, h3, h4⟩ := make_int 1001 (by decide) code a b hA hB
  have ea : wrap64 a = a := by unfold wrap64; omega
  have eb : wrap64 b = b := by unfold wrap64; omega
  have er : wrap64 r = r := by unfold wrap64; omega
  unfold regletlaw01_NumInts.f
  rw [holds_some 1000, Option.bind_some, if_pos rfl, and_one, ea, eb]
  by_cases h : code % 2 = 0
  · rw [if_pos h, h1, Option.bind_some, h2, Option.bind_some, er]; simp
  · rw [if_neg h, int_none 1000 code a b (by omega), Option.bind_some]; decide +kernel

end Go.Proofs.Ytmgeihpankhkcaa.Pure
