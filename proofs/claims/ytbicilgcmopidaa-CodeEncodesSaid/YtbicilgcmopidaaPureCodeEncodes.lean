/- For all lists of instructions: the program's Encode and the document's answer the same. -/
import Derived.Test.YtbicilgcmopidaaPAllx11
import Derived.Test.YtbicilgcmopidaaEncAll
namespace Go.Proofs.Ytbicilgcmopidaa.Pure
open Go.RowKit Go.Proofs.Ytbicilgcmopidaa.PAll Go.Proofs.YtbicilgcmopidaaW.PrintWords Go.Proofs.YtbicilgcmopidaaW.PrintLast

theorem CodeEncodes (l : List S36) : regletlaw06_CodeEncodes.f 900000 l = some true := by
  unfold regletlaw06_CodeEncodes.f
  rw [holds_some 900000 (by decide), Option.bind_some, if_pos rfl]
  by_cases h : (l.length : Int) > 20000
  · rw [if_pos h]
  rw [if_neg h, code_encode_some l (by omega) 900000 (by decide), Option.bind_some, ref_encode_some l (by omega) 900000 (by decide), Option.bind_some, enc_same l, if_pos rfl]
  simp

end Go.Proofs.Ytbicilgcmopidaa.Pure
