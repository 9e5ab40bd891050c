/-
  No cell of these rows narrows 'for every input' (looked for: loops, veiled, ifaces, maps, wideKeys, modest, calm, conditions, laid).
  DERIVED. THE GIVEN ROWS OF THIS SEAT. 9 by the template 'for every input the law returns true; each argument reads behind the call as it read before'; 0 by the template 'total and deterministic' (their statements: YtmgeihpankhkcaaTotals.lean).
  GIVEN WITH THE SEED: the statements are not yours to turn. If you find one false, say at which input.
  Laid BY PROGRAM, IN A SANDBOX (cutbox-rows.mjs): the forced cells as the released guide's own fill.sh prints them over the translation b7b399cdb17b5926… (all of the seat's roots in one cut). By AI agents, Wed Nov 11 2026. No macro, syntax, notation, axiom, sorry.
-/
import Derived.Test.YtmgeihpankhkcaaChecked
import GoSem.Claim
import GoSem.ClaimJoined
import GoSem.ClaimMapViews
import Derived.JoinedTies
import Derived.KernelRfl
namespace Go.Proofs.Ytmgeihpankhkcaa
/- THE CELL 'sum', in the pinned program and in every row, IS THE sha256 OF THE DUMP (.gsa) THAT YtmgeihpankhkcaaProg.lean LOADS. Nothing in Lean hashes anything: it is a label: what it is worth is what the hold of that sum in a sandbox is worth. -/
noncomputable def Try.pinned : Pinned := { name := "ytmgeihpankhkcaa", sum := "b7b399cdb17b5926c8f769a976504b34e50c39a42ae7a1bf63aef3a1ddd881a3", checked := Try.checked }
namespace Rows
def none {H : Type} : Left H := { results := [], args := [] }

/-- 'regletlaw01.NumInts': WHATEVER THE INPUT: true; the input reads as it did. -/
def numIntsSpec : ChangeSpec := { name := "numInts", fn := fun _ => fun
  | [d1, d2, d3] => { results := [.lit (.bool true)], args := [d1, d2, d3] }
  | _ => none }
def numIntsRow : OpenClaim := { program := "ytmgeihpankhkcaa", sum := "b7b399cdb17b5926c8f769a976504b34e50c39a42ae7a1bf63aef3a1ddd881a3", func := "reglet/regletlaw01.NumInts", spec := "numInts", apart := false }
def NumIntsSaid : Prop := numIntsRow.holds Try.pinned (OpenSpec.ofChange numIntsSpec)

/-- ITS FALSE NEIGHBOUR: 'it returns false'. Refute it at one input. -/
def numIntsWrong : ChangeSpec := { name := "numInts", fn := fun _ => fun
  | [d1, d2, d3] => { results := [.lit (.bool false)], args := [d1, d2, d3] }
  | _ => none }
def NumIntsWrongFalsely : Prop := numIntsRow.holds Try.pinned (OpenSpec.ofChange numIntsWrong)

/-- 'regletlaw01.NumLongs': WHATEVER THE INPUT: true; the input reads as it did. -/
def numLongsSpec : ChangeSpec := { name := "numLongs", fn := fun _ => fun
  | [d1, d2, d3] => { results := [.lit (.bool true)], args := [d1, d2, d3] }
  | _ => none }
def numLongsRow : OpenClaim := { program := "ytmgeihpankhkcaa", sum := "b7b399cdb17b5926c8f769a976504b34e50c39a42ae7a1bf63aef3a1ddd881a3", func := "reglet/regletlaw01.NumLongs", spec := "numLongs", apart := false }
def NumLongsSaid : Prop := numLongsRow.holds Try.pinned (OpenSpec.ofChange numLongsSpec)

/-- ITS FALSE NEIGHBOUR: 'it returns false'. Refute it at one input. -/
def numLongsWrong : ChangeSpec := { name := "numLongs", fn := fun _ => fun
  | [d1, d2, d3] => { results := [.lit (.bool false)], args := [d1, d2, d3] }
  | _ => none }
def NumLongsWrongFalsely : Prop := numLongsRow.holds Try.pinned (OpenSpec.ofChange numLongsWrong)

/-- 'regletlaw01.NumParts': WHATEVER THE INPUT: true; the input reads as it did. -/
def numPartsSpec : ChangeSpec := { name := "numParts", fn := fun _ => fun
  | [d1, d2] => { results := [.lit (.bool true)], args := [d1, d2] }
  | _ => none }
def numPartsRow : OpenClaim := { program := "ytmgeihpankhkcaa", sum := "b7b399cdb17b5926c8f769a976504b34e50c39a42ae7a1bf63aef3a1ddd881a3", func := "reglet/regletlaw01.NumParts", spec := "numParts", apart := false }
def NumPartsSaid : Prop := numPartsRow.holds Try.pinned (OpenSpec.ofChange numPartsSpec)

/-- ITS FALSE NEIGHBOUR: 'it returns false'. Refute it at one input. -/
def numPartsWrong : ChangeSpec := { name := "numParts", fn := fun _ => fun
  | [d1, d2] => { results := [.lit (.bool false)], args := [d1, d2] }
  | _ => none }
def NumPartsWrongFalsely : Prop := numPartsRow.holds Try.pinned (OpenSpec.ofChange numPartsWrong)

/-- 'regletlaw01.NumMoves': WHATEVER THE INPUT: true; the input reads as it did. -/
def numMovesSpec : ChangeSpec := { name := "numMoves", fn := fun _ => fun
  | [d1, d2] => { results := [.lit (.bool true)], args := [d1, d2] }
  | _ => none }
def numMovesRow : OpenClaim := { program := "ytmgeihpankhkcaa", sum := "b7b399cdb17b5926c8f769a976504b34e50c39a42ae7a1bf63aef3a1ddd881a3", func := "reglet/regletlaw01.NumMoves", spec := "numMoves", apart := false }
def NumMovesSaid : Prop := numMovesRow.holds Try.pinned (OpenSpec.ofChange numMovesSpec)

/-- ITS FALSE NEIGHBOUR: 'it returns false'. Refute it at one input. -/
def numMovesWrong : ChangeSpec := { name := "numMoves", fn := fun _ => fun
  | [d1, d2] => { results := [.lit (.bool false)], args := [d1, d2] }
  | _ => none }
def NumMovesWrongFalsely : Prop := numMovesRow.holds Try.pinned (OpenSpec.ofChange numMovesWrong)

/-- 'regletlaw01.NumLaws': WHATEVER THE INPUT: true; the input reads as it did. -/
def numLawsSpec : ChangeSpec := { name := "numLaws", fn := fun _ => fun
  | [d1, d2, d3] => { results := [.lit (.bool true)], args := [d1, d2, d3] }
  | _ => none }
def numLawsRow : OpenClaim := { program := "ytmgeihpankhkcaa", sum := "b7b399cdb17b5926c8f769a976504b34e50c39a42ae7a1bf63aef3a1ddd881a3", func := "reglet/regletlaw01.NumLaws", spec := "numLaws", unfollowed := true, recurses := true, apart := false }
def NumLawsSaid : Prop := numLawsRow.holds Try.pinned (OpenSpec.ofChange numLawsSpec)

/-- ITS FALSE NEIGHBOUR: 'it returns false'. Refute it at one input. -/
def numLawsWrong : ChangeSpec := { name := "numLaws", fn := fun _ => fun
  | [d1, d2, d3] => { results := [.lit (.bool false)], args := [d1, d2, d3] }
  | _ => none }
def NumLawsWrongFalsely : Prop := numLawsRow.holds Try.pinned (OpenSpec.ofChange numLawsWrong)

/-- 'regletlaw01.NumBits': WHATEVER THE INPUT: true; the input reads as it did. -/
def numBitsSpec : ChangeSpec := { name := "numBits", fn := fun _ => fun
  | [d1, d2, d3] => { results := [.lit (.bool true)], args := [d1, d2, d3] }
  | _ => none }
def numBitsRow : OpenClaim := { program := "ytmgeihpankhkcaa", sum := "b7b399cdb17b5926c8f769a976504b34e50c39a42ae7a1bf63aef3a1ddd881a3", func := "reglet/regletlaw01.NumBits", spec := "numBits", apart := false }
def NumBitsSaid : Prop := numBitsRow.holds Try.pinned (OpenSpec.ofChange numBitsSpec)

/-- ITS FALSE NEIGHBOUR: 'it returns false'. Refute it at one input. -/
def numBitsWrong : ChangeSpec := { name := "numBits", fn := fun _ => fun
  | [d1, d2, d3] => { results := [.lit (.bool false)], args := [d1, d2, d3] }
  | _ => none }
def NumBitsWrongFalsely : Prop := numBitsRow.holds Try.pinned (OpenSpec.ofChange numBitsWrong)

/-- 'regletlaw01.NumCuts': WHATEVER THE INPUT: true; the input reads as it did. -/
def numCutsSpec : ChangeSpec := { name := "numCuts", fn := fun _ => fun
  | [d] => { results := [.lit (.bool true)], args := [d] }
  | _ => none }
def numCutsRow : OpenClaim := { program := "ytmgeihpankhkcaa", sum := "b7b399cdb17b5926c8f769a976504b34e50c39a42ae7a1bf63aef3a1ddd881a3", func := "reglet/regletlaw01.NumCuts", spec := "numCuts", apart := false }
def NumCutsSaid : Prop := numCutsRow.holds Try.pinned (OpenSpec.ofChange numCutsSpec)

/-- ITS FALSE NEIGHBOUR: 'it returns false'. Refute it at one input. -/
def numCutsWrong : ChangeSpec := { name := "numCuts", fn := fun _ => fun
  | [d] => { results := [.lit (.bool false)], args := [d] }
  | _ => none }
def NumCutsWrongFalsely : Prop := numCutsRow.holds Try.pinned (OpenSpec.ofChange numCutsWrong)

/-- 'regletlaw01.NumHolds': WHATEVER THE INPUT: true; the input reads as it did. -/
def numHoldsSpec : ChangeSpec := { name := "numHolds", fn := fun _ => fun
  | [d1, d2, d3] => { results := [.lit (.bool true)], args := [d1, d2, d3] }
  | _ => none }
def numHoldsRow : OpenClaim := { program := "ytmgeihpankhkcaa", sum := "b7b399cdb17b5926c8f769a976504b34e50c39a42ae7a1bf63aef3a1ddd881a3", func := "reglet/regletlaw01.NumHolds", spec := "numHolds", apart := false }
def NumHoldsSaid : Prop := numHoldsRow.holds Try.pinned (OpenSpec.ofChange numHoldsSpec)

/-- ITS FALSE NEIGHBOUR: 'it returns false'. Refute it at one input. -/
def numHoldsWrong : ChangeSpec := { name := "numHolds", fn := fun _ => fun
  | [d1, d2, d3] => { results := [.lit (.bool false)], args := [d1, d2, d3] }
  | _ => none }
def NumHoldsWrongFalsely : Prop := numHoldsRow.holds Try.pinned (OpenSpec.ofChange numHoldsWrong)

/-- 'regletlaw01.NumWords': WHATEVER THE INPUT: true; the input reads as it did. -/
def numWordsSpec : ChangeSpec := { name := "numWords", fn := fun _ => fun
  | [d1, d2, d3] => { results := [.lit (.bool true)], args := [d1, d2, d3] }
  | _ => none }
def numWordsRow : OpenClaim := { program := "ytmgeihpankhkcaa", sum := "b7b399cdb17b5926c8f769a976504b34e50c39a42ae7a1bf63aef3a1ddd881a3", func := "reglet/regletlaw01.NumWords", spec := "numWords", apart := false }
def NumWordsSaid : Prop := numWordsRow.holds Try.pinned (OpenSpec.ofChange numWordsSpec)

/-- ITS FALSE NEIGHBOUR: 'it returns false'. Refute it at one input. -/
def numWordsWrong : ChangeSpec := { name := "numWords", fn := fun _ => fun
  | [d1, d2, d3] => { results := [.lit (.bool false)], args := [d1, d2, d3] }
  | _ => none }
def NumWordsWrongFalsely : Prop := numWordsRow.holds Try.pinned (OpenSpec.ofChange numWordsWrong)

/- THE SECOND FORM. 'bulk': how many values and letters a reading holds, each counted each time it is reached (what is shared counts as often as it is met; a slice's spare places count too). A statement '..UptoSaid' is the law's where the arguments, and the package variables that the reading takes, are together of bulk at most 1048576: NARROWER than '..Said'. Prove '..Said' where nothing that the law and all that it calls make is longer than what came in: it says more and counts as full. Else prove '..UptoSaid'. A law counts once. -/
mutual
def uptoBulk {H : Type} : DataW H → Nat
  | .lit (.string bytes) => bytes.length + 1
  | .lit _ => 1
  | .nil => 1
  | .ptr d => uptoBulk d + 1
  | .slice elems spare => uptoBulkAll elems + uptoBulkAll spare + 1
  | .agg parts => uptoBulkAll parts + 1
  | .iface _ d => uptoBulk d + 1
  | .map entries => uptoBulkEntries entries + 1
  | .held _ => 1
def uptoBulkAll {H : Type} : List (DataW H) → Nat
  | [] => 0
  | d :: r => uptoBulk d + uptoBulkAll r
def uptoBulkEntries {H : Type} : List (Lit × DataW H) → Nat
  | [] => 0
  | x :: r => uptoBulkEntry x + uptoBulkEntries r
def uptoBulkEntry {H : Type} : Lit × DataW H → Nat
  | (.string bytes, d) => bytes.length + uptoBulk d + 1
  | (_, d) => uptoBulk d + 1
 end
def uptoSmall : (H : Type) → List (DataW H) → Bool := fun _ ds => decide (uptoBulkAll ds ≤ 1048576)
def OpenSpec.upto (s : _root_.Go.ChangeSpec) : _root_.Go.OpenSpec := { _root_.Go.OpenSpec.ofChange s with cond := some uptoSmall }

/-- 'regletlaw01.NumInts', WHERE WHAT IT READS IS OF BULK AT MOST 1048576: true; the input reads as it did. -/
def numIntsUptoRow : OpenClaim := { program := "ytmgeihpankhkcaa", sum := "b7b399cdb17b5926c8f769a976504b34e50c39a42ae7a1bf63aef3a1ddd881a3", func := "reglet/regletlaw01.NumInts", spec := "numInts", apart := false, narrowed := true }
def NumIntsUptoSaid : Prop := numIntsUptoRow.holds Try.pinned (OpenSpec.upto numIntsSpec)

/-- 'regletlaw01.NumLongs', WHERE WHAT IT READS IS OF BULK AT MOST 1048576: true; the input reads as it did. -/
def numLongsUptoRow : OpenClaim := { program := "ytmgeihpankhkcaa", sum := "b7b399cdb17b5926c8f769a976504b34e50c39a42ae7a1bf63aef3a1ddd881a3", func := "reglet/regletlaw01.NumLongs", spec := "numLongs", apart := false, narrowed := true }
def NumLongsUptoSaid : Prop := numLongsUptoRow.holds Try.pinned (OpenSpec.upto numLongsSpec)

/-- 'regletlaw01.NumParts', WHERE WHAT IT READS IS OF BULK AT MOST 1048576: true; the input reads as it did. -/
def numPartsUptoRow : OpenClaim := { program := "ytmgeihpankhkcaa", sum := "b7b399cdb17b5926c8f769a976504b34e50c39a42ae7a1bf63aef3a1ddd881a3", func := "reglet/regletlaw01.NumParts", spec := "numParts", apart := false, narrowed := true }
def NumPartsUptoSaid : Prop := numPartsUptoRow.holds Try.pinned (OpenSpec.upto numPartsSpec)

/-- 'regletlaw01.NumMoves', WHERE WHAT IT READS IS OF BULK AT MOST 1048576: true; the input reads as it did. -/
def numMovesUptoRow : OpenClaim := { program := "ytmgeihpankhkcaa", sum := "b7b399cdb17b5926c8f769a976504b34e50c39a42ae7a1bf63aef3a1ddd881a3", func := "reglet/regletlaw01.NumMoves", spec := "numMoves", apart := false, narrowed := true }
def NumMovesUptoSaid : Prop := numMovesUptoRow.holds Try.pinned (OpenSpec.upto numMovesSpec)

/-- 'regletlaw01.NumLaws', WHERE WHAT IT READS IS OF BULK AT MOST 1048576: true; the input reads as it did. -/
def numLawsUptoRow : OpenClaim := { program := "ytmgeihpankhkcaa", sum := "b7b399cdb17b5926c8f769a976504b34e50c39a42ae7a1bf63aef3a1ddd881a3", func := "reglet/regletlaw01.NumLaws", spec := "numLaws", unfollowed := true, recurses := true, apart := false, narrowed := true }
def NumLawsUptoSaid : Prop := numLawsUptoRow.holds Try.pinned (OpenSpec.upto numLawsSpec)

/-- 'regletlaw01.NumBits', WHERE WHAT IT READS IS OF BULK AT MOST 1048576: true; the input reads as it did. -/
def numBitsUptoRow : OpenClaim := { program := "ytmgeihpankhkcaa", sum := "b7b399cdb17b5926c8f769a976504b34e50c39a42ae7a1bf63aef3a1ddd881a3", func := "reglet/regletlaw01.NumBits", spec := "numBits", apart := false, narrowed := true }
def NumBitsUptoSaid : Prop := numBitsUptoRow.holds Try.pinned (OpenSpec.upto numBitsSpec)

/-- 'regletlaw01.NumCuts', WHERE WHAT IT READS IS OF BULK AT MOST 1048576: true; the input reads as it did. -/
def numCutsUptoRow : OpenClaim := { program := "ytmgeihpankhkcaa", sum := "b7b399cdb17b5926c8f769a976504b34e50c39a42ae7a1bf63aef3a1ddd881a3", func := "reglet/regletlaw01.NumCuts", spec := "numCuts", apart := false, narrowed := true }
def NumCutsUptoSaid : Prop := numCutsUptoRow.holds Try.pinned (OpenSpec.upto numCutsSpec)

/-- 'regletlaw01.NumHolds', WHERE WHAT IT READS IS OF BULK AT MOST 1048576: true; the input reads as it did. -/
def numHoldsUptoRow : OpenClaim := { program := "ytmgeihpankhkcaa", sum := "b7b399cdb17b5926c8f769a976504b34e50c39a42ae7a1bf63aef3a1ddd881a3", func := "reglet/regletlaw01.NumHolds", spec := "numHolds", apart := false, narrowed := true }
def NumHoldsUptoSaid : Prop := numHoldsUptoRow.holds Try.pinned (OpenSpec.upto numHoldsSpec)

/-- 'regletlaw01.NumWords', WHERE WHAT IT READS IS OF BULK AT MOST 1048576: true; the input reads as it did. -/
def numWordsUptoRow : OpenClaim := { program := "ytmgeihpankhkcaa", sum := "b7b399cdb17b5926c8f769a976504b34e50c39a42ae7a1bf63aef3a1ddd881a3", func := "reglet/regletlaw01.NumWords", spec := "numWords", apart := false, narrowed := true }
def NumWordsUptoSaid : Prop := numWordsUptoRow.holds Try.pinned (OpenSpec.upto numWordsSpec)

end Rows
end Go.Proofs.Ytmgeihpankhkcaa
