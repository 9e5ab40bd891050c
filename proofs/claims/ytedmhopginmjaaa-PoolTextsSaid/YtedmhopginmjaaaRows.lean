/-
  No cell of these rows narrows 'for every input' (looked for: loops, veiled, ifaces, maps, wideKeys, modest, calm, conditions, laid).
  DERIVED. THE GIVEN ROWS OF THIS SEAT. 5 by the template 'for every input the law returns true; each argument reads behind the call as it read before'; 0 by the template 'total and deterministic' (their statements: YtedmhopginmjaaaTotals.lean).
  GIVEN WITH THE SEED: the statements are not yours to turn. If you find one false, say at which input.
  Laid BY PROGRAM, IN A SANDBOX (cutbox-rows.mjs): the forced cells as the released guide's own fill.sh prints them over the translation eed9dd0706e273e9… (all of the seat's roots in one cut). By AI agents, Wed Nov 11 2026. No macro, syntax, notation, axiom, sorry.
-/
import Derived.Test.YtedmhopginmjaaaChecked
import GoSem.Claim
import GoSem.ClaimJoined
import GoSem.ClaimMapViews
import Derived.JoinedTies
import Derived.KernelRfl
namespace Go.Proofs.Ytedmhopginmjaaa
/- THE CELL 'sum', in the pinned program and in every row, IS THE sha256 OF THE DUMP (.gsa) THAT YtedmhopginmjaaaProg.lean LOADS. Nothing in Lean hashes anything: it is a label: what it is worth is what the hold of that sum in a sandbox is worth. -/
noncomputable def Try.pinned : Pinned := { name := "ytedmhopginmjaaa", sum := "eed9dd0706e273e9949eb5c18cd9289a667d1dfce0e6b37df55a1dee868daa92", checked := Try.checked }
namespace Rows
def none {H : Type} : Left H := { results := [], args := [] }

/-- 'regletlaw03.PoolReads': WHATEVER THE INPUT: true; the input reads as it did. -/
def poolReadsSpec : ChangeSpec := { name := "poolReads", fn := fun _ => fun
  | [d1, d2] => { results := [.lit (.bool true)], args := [d1, d2] }
  | _ => none }
def poolReadsRow : OpenClaim := { program := "ytedmhopginmjaaa", sum := "eed9dd0706e273e9949eb5c18cd9289a667d1dfce0e6b37df55a1dee868daa92", func := "reglet/regletlaw03.PoolReads", spec := "poolReads", apart := false }
def PoolReadsSaid : Prop := poolReadsRow.holds Try.pinned (OpenSpec.ofChange poolReadsSpec)

/-- ITS FALSE NEIGHBOUR: 'it returns false'. Refute it at one input. -/
def poolReadsWrong : ChangeSpec := { name := "poolReads", fn := fun _ => fun
  | [d1, d2] => { results := [.lit (.bool false)], args := [d1, d2] }
  | _ => none }
def PoolReadsWrongFalsely : Prop := poolReadsRow.holds Try.pinned (OpenSpec.ofChange poolReadsWrong)

/-- 'regletlaw03.PoolTexts': WHATEVER THE INPUT: true; the input reads as it did. -/
def poolTextsSpec : ChangeSpec := { name := "poolTexts", fn := fun _ => fun
  | [d1, d2] => { results := [.lit (.bool true)], args := [d1, d2] }
  | _ => none }
def poolTextsRow : OpenClaim := { program := "ytedmhopginmjaaa", sum := "eed9dd0706e273e9949eb5c18cd9289a667d1dfce0e6b37df55a1dee868daa92", func := "reglet/regletlaw03.PoolTexts", spec := "poolTexts", apart := false }
def PoolTextsSaid : Prop := poolTextsRow.holds Try.pinned (OpenSpec.ofChange poolTextsSpec)

/-- ITS FALSE NEIGHBOUR: 'it returns false'. Refute it at one input. -/
def poolTextsWrong : ChangeSpec := { name := "poolTexts", fn := fun _ => fun
  | [d1, d2] => { results := [.lit (.bool false)], args := [d1, d2] }
  | _ => none }
def PoolTextsWrongFalsely : Prop := poolTextsRow.holds Try.pinned (OpenSpec.ofChange poolTextsWrong)

/-- 'regletlaw03.PoolLater': WHATEVER THE INPUT: true; the input reads as it did. -/
def poolLaterSpec : ChangeSpec := { name := "poolLater", fn := fun _ => fun
  | [d1, d2, d3] => { results := [.lit (.bool true)], args := [d1, d2, d3] }
  | _ => none }
def poolLaterRow : OpenClaim := { program := "ytedmhopginmjaaa", sum := "eed9dd0706e273e9949eb5c18cd9289a667d1dfce0e6b37df55a1dee868daa92", func := "reglet/regletlaw03.PoolLater", spec := "poolLater", apart := false }
def PoolLaterSaid : Prop := poolLaterRow.holds Try.pinned (OpenSpec.ofChange poolLaterSpec)

/-- ITS FALSE NEIGHBOUR: 'it returns false'. Refute it at one input. -/
def poolLaterWrong : ChangeSpec := { name := "poolLater", fn := fun _ => fun
  | [d1, d2, d3] => { results := [.lit (.bool false)], args := [d1, d2, d3] }
  | _ => none }
def PoolLaterWrongFalsely : Prop := poolLaterRow.holds Try.pinned (OpenSpec.ofChange poolLaterWrong)

/-- 'regletlaw03.PoolRuns': WHATEVER THE INPUT: true; the input reads as it did. -/
def poolRunsSpec : ChangeSpec := { name := "poolRuns", fn := fun _ => fun
  | [d] => { results := [.lit (.bool true)], args := [d] }
  | _ => none }
def poolRunsRow : OpenClaim := { program := "ytedmhopginmjaaa", sum := "eed9dd0706e273e9949eb5c18cd9289a667d1dfce0e6b37df55a1dee868daa92", func := "reglet/regletlaw03.PoolRuns", spec := "poolRuns", inPlace := ["internal/bytealg.IndexByteString", "internal/bytealg.IndexString"], named := ["internal/bytealg.MaxLen"], apart := false }
def PoolRunsSaid : Prop := poolRunsRow.holds Try.pinned (OpenSpec.ofChange poolRunsSpec)

/-- ITS FALSE NEIGHBOUR: 'it returns false'. Refute it at one input. -/
def poolRunsWrong : ChangeSpec := { name := "poolRuns", fn := fun _ => fun
  | [d] => { results := [.lit (.bool false)], args := [d] }
  | _ => none }
def PoolRunsWrongFalsely : Prop := poolRunsRow.holds Try.pinned (OpenSpec.ofChange poolRunsWrong)

/-- 'regletlaw03.PoolNamed': WHATEVER THE INPUT: true; the input reads as it did. -/
def poolNamedSpec : ChangeSpec := { name := "poolNamed", fn := fun _ => fun
  | [d1, d2] => { results := [.lit (.bool true)], args := [d1, d2] }
  | _ => none }
def poolNamedRow : OpenClaim := { program := "ytedmhopginmjaaa", sum := "eed9dd0706e273e9949eb5c18cd9289a667d1dfce0e6b37df55a1dee868daa92", func := "reglet/regletlaw03.PoolNamed", spec := "poolNamed", inPlace := ["internal/bytealg.IndexByteString", "internal/bytealg.IndexString"], named := ["internal/bytealg.MaxLen"], apart := false }
def PoolNamedSaid : Prop := poolNamedRow.holds Try.pinned (OpenSpec.ofChange poolNamedSpec)

/-- ITS FALSE NEIGHBOUR: 'it returns false'. Refute it at one input. -/
def poolNamedWrong : ChangeSpec := { name := "poolNamed", fn := fun _ => fun
  | [d1, d2] => { results := [.lit (.bool false)], args := [d1, d2] }
  | _ => none }
def PoolNamedWrongFalsely : Prop := poolNamedRow.holds Try.pinned (OpenSpec.ofChange poolNamedWrong)

/- THE SECOND FORM. 'bulk': how many values and letters a reading holds, each counted each time it is reached (what is shared counts as often as it is met; a slice's spare places count too). A statement '..UptoSaid' is the law's where the arguments, and the package variables that the reading takes, are together of bulk at most 1048576: NARROWER than '..Said'. Prove '..Said' where nothing that the law and all that it calls make is longer than what came in: it says more and counts as full. Else prove '..UptoSaid'. A law counts once. -/
mutual
def uptoBulk {H : Type} : DataW H → Nat
  | .lit (.string bytes) => bytes.length + 1
  | .lit _ => 1
  | .nil => 1
  | .ptr d => uptoBulk d + 1
  | .slice elems spare => uptoBulkAll elems + uptoBulkAll spare + 1
  | .agg parts => uptoBulkAll parts + 1
  | .iface _ d => uptoBulk d + 1
  | .map entries => uptoBulkEntries entries + 1
  | .held _ => 1
def uptoBulkAll {H : Type} : List (DataW H) → Nat
  | [] => 0
  | d :: r => uptoBulk d + uptoBulkAll r
def uptoBulkEntries {H : Type} : List (Lit × DataW H) → Nat
  | [] => 0
  | x :: r => uptoBulkEntry x + uptoBulkEntries r
def uptoBulkEntry {H : Type} : Lit × DataW H → Nat
  | (.string bytes, d) => bytes.length + uptoBulk d + 1
  | (_, d) => uptoBulk d + 1
 end
def uptoSmall : (H : Type) → List (DataW H) → Bool := fun _ ds => decide (uptoBulkAll ds ≤ 1048576)
def OpenSpec.upto (s : _root_.Go.ChangeSpec) : _root_.Go.OpenSpec := { _root_.Go.OpenSpec.ofChange s with cond := some uptoSmall }

/-- 'regletlaw03.PoolReads', WHERE WHAT IT READS IS OF BULK AT MOST 1048576: true; the input reads as it did. -/
def poolReadsUptoRow : OpenClaim := { program := "ytedmhopginmjaaa", sum := "eed9dd0706e273e9949eb5c18cd9289a667d1dfce0e6b37df55a1dee868daa92", func := "reglet/regletlaw03.PoolReads", spec := "poolReads", apart := false, narrowed := true }
def PoolReadsUptoSaid : Prop := poolReadsUptoRow.holds Try.pinned (OpenSpec.upto poolReadsSpec)

/-- 'regletlaw03.PoolTexts', WHERE WHAT IT READS IS OF BULK AT MOST 1048576: true; the input reads as it did. -/
def poolTextsUptoRow : OpenClaim := { program := "ytedmhopginmjaaa", sum := "eed9dd0706e273e9949eb5c18cd9289a667d1dfce0e6b37df55a1dee868daa92", func := "reglet/regletlaw03.PoolTexts", spec := "poolTexts", apart := false, narrowed := true }
def PoolTextsUptoSaid : Prop := poolTextsUptoRow.holds Try.pinned (OpenSpec.upto poolTextsSpec)

/-- 'regletlaw03.PoolLater', WHERE WHAT IT READS IS OF BULK AT MOST 1048576: true; the input reads as it did. -/
def poolLaterUptoRow : OpenClaim := { program := "ytedmhopginmjaaa", sum := "eed9dd0706e273e9949eb5c18cd9289a667d1dfce0e6b37df55a1dee868daa92", func := "reglet/regletlaw03.PoolLater", spec := "poolLater", apart := false, narrowed := true }
def PoolLaterUptoSaid : Prop := poolLaterUptoRow.holds Try.pinned (OpenSpec.upto poolLaterSpec)

/-- 'regletlaw03.PoolRuns', WHERE WHAT IT READS IS OF BULK AT MOST 1048576: true; the input reads as it did. -/
def poolRunsUptoRow : OpenClaim := { program := "ytedmhopginmjaaa", sum := "eed9dd0706e273e9949eb5c18cd9289a667d1dfce0e6b37df55a1dee868daa92", func := "reglet/regletlaw03.PoolRuns", spec := "poolRuns", inPlace := ["internal/bytealg.IndexByteString", "internal/bytealg.IndexString"], named := ["internal/bytealg.MaxLen"], apart := false, narrowed := true }
def PoolRunsUptoSaid : Prop := poolRunsUptoRow.holds Try.pinned (OpenSpec.upto poolRunsSpec)

/-- 'regletlaw03.PoolNamed', WHERE WHAT IT READS IS OF BULK AT MOST 1048576: true; the input reads as it did. -/
def poolNamedUptoRow : OpenClaim := { program := "ytedmhopginmjaaa", sum := "eed9dd0706e273e9949eb5c18cd9289a667d1dfce0e6b37df55a1dee868daa92", func := "reglet/regletlaw03.PoolNamed", spec := "poolNamed", inPlace := ["internal/bytealg.IndexByteString", "internal/bytealg.IndexString"], named := ["internal/bytealg.MaxLen"], apart := false, narrowed := true }
def PoolNamedUptoSaid : Prop := poolNamedUptoRow.holds Try.pinned (OpenSpec.upto poolNamedSpec)

end Rows
end Go.Proofs.Ytedmhopginmjaaa
