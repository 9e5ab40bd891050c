/- For all codes and all pairs of int64 numbers: what an instruction makes of them is what the document has. No condition. -/
import Derived.Test.YtmgeihpankhkcaaPAllx5
import Derived.Test.YtmgeihpankhkcaaMakeAll
namespace Go.Proofs.Ytmgeihpankhkcaa.Pure
open Go.RowKit Go.Proofs.Ytmgeihpankhkcaa.PAll Go.Proofs.YtmgeihpankhkcaaW.PrintWords Go.Proofs.YtmgeihpankhkcaaW.PrintLast Go.Proofs.Ytmgeihpankhkcaa.Plain

theorem NumLongs : regletlaw01_NumLongs.Pure := by
  intro code a b hc ha hb
  refine ⟨1000 + 1, ?_⟩
  have hC := wf64 hc
  obtain ⟨r, h1, h2⟩ := make_long 1001 (by decide) code a b (wf64 ha) (wf64 hb)
  unfold regletlaw01_NumLongs.f
  rw [holds_some 1000, Option.bind_some, if_pos rfl, and_one]
  by_cases h : code % 2 = 1
  · rw [if_pos h, andNot_one code hC.1 hC.2, h, h1, Option.bind_some, h2, Option.bind_some]; simp
  · rw [if_neg h, long_none 1000 code a b (by omega), Option.bind_some]; rfl

end Go.Proofs.Ytmgeihpankhkcaa.Pure
