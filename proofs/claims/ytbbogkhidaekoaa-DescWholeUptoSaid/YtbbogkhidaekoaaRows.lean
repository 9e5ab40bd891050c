/-
  No cell of these rows narrows 'for every input' (looked for: loops, veiled, ifaces, maps, wideKeys, modest, calm, conditions, laid).
  DERIVED. THE GIVEN ROWS OF THIS SEAT. 6 by the template 'for every input the law returns true; each argument reads behind the call as it read before'; 0 by the template 'total and deterministic' (their statements: YtbbogkhidaekoaaTotals.lean).
  GIVEN WITH THE SEED: the statements are not yours to turn. If you find one false, say at which input.
  Laid BY PROGRAM, IN A SANDBOX (cutbox-rows.mjs): the forced cells as the released guide's own fill.sh prints them over the translation 87367b96a24277ca… (all of the seat's roots in one cut). By AI agents, Wed Nov 11 2026. No macro, syntax, notation, axiom, sorry.
-/
import Derived.Test.YtbbogkhidaekoaaChecked
import GoSem.Claim
import GoSem.ClaimJoined
import GoSem.ClaimMapViews
import Derived.JoinedTies
import Derived.KernelRfl
namespace Go.Proofs.Ytbbogkhidaekoaa
/- THE CELL 'sum', in the pinned program and in every row, IS THE sha256 OF THE DUMP (.gsa) THAT YtbbogkhidaekoaaProg.lean LOADS. Nothing in Lean hashes anything: it is a label: what it is worth is what the hold of that sum in a sandbox is worth. -/
noncomputable def Try.pinned : Pinned := { name := "ytbbogkhidaekoaa", sum := "87367b96a24277ca27ec6c1b168c011d90f96c48dccacce25e61abcac5572500", checked := Try.checked }
namespace Rows
def none {H : Type} : Left H := { results := [], args := [] }

/-- 'regletlaw02.DescParts': WHATEVER THE INPUT: true; the input reads as it did. -/
def descPartsSpec : ChangeSpec := { name := "descParts", fn := fun _ => fun
  | [d] => { results := [.lit (.bool true)], args := [d] }
  | _ => none }
def descPartsRow : OpenClaim := { program := "ytbbogkhidaekoaa", sum := "87367b96a24277ca27ec6c1b168c011d90f96c48dccacce25e61abcac5572500", func := "reglet/regletlaw02.DescParts", spec := "descParts", apart := false }
def DescPartsSaid : Prop := descPartsRow.holds Try.pinned (OpenSpec.ofChange descPartsSpec)

/-- ITS FALSE NEIGHBOUR: 'it returns false'. Refute it at one input. -/
def descPartsWrong : ChangeSpec := { name := "descParts", fn := fun _ => fun
  | [d] => { results := [.lit (.bool false)], args := [d] }
  | _ => none }
def DescPartsWrongFalsely : Prop := descPartsRow.holds Try.pinned (OpenSpec.ofChange descPartsWrong)

/-- 'regletlaw02.DescArrays': WHATEVER THE INPUT: true; the input reads as it did. -/
def descArraysSpec : ChangeSpec := { name := "descArrays", fn := fun _ => fun
  | [d] => { results := [.lit (.bool true)], args := [d] }
  | _ => none }
def descArraysRow : OpenClaim := { program := "ytbbogkhidaekoaa", sum := "87367b96a24277ca27ec6c1b168c011d90f96c48dccacce25e61abcac5572500", func := "reglet/regletlaw02.DescArrays", spec := "descArrays", apart := false }
def DescArraysSaid : Prop := descArraysRow.holds Try.pinned (OpenSpec.ofChange descArraysSpec)

/-- ITS FALSE NEIGHBOUR: 'it returns false'. Refute it at one input. -/
def descArraysWrong : ChangeSpec := { name := "descArrays", fn := fun _ => fun
  | [d] => { results := [.lit (.bool false)], args := [d] }
  | _ => none }
def DescArraysWrongFalsely : Prop := descArraysRow.holds Try.pinned (OpenSpec.ofChange descArraysWrong)

/-- 'regletlaw02.DescWhole': WHATEVER THE INPUT: true; the input reads as it did. -/
def descWholeSpec : ChangeSpec := { name := "descWhole", fn := fun _ => fun
  | [d1, d2] => { results := [.lit (.bool true)], args := [d1, d2] }
  | _ => none }
def descWholeRow : OpenClaim := { program := "ytbbogkhidaekoaa", sum := "87367b96a24277ca27ec6c1b168c011d90f96c48dccacce25e61abcac5572500", func := "reglet/regletlaw02.DescWhole", spec := "descWhole", inPlace := ["internal/abi.NoEscape", "internal/bytealg.MakeNoZero"], apart := false }
def DescWholeSaid : Prop := descWholeRow.holds Try.pinned (OpenSpec.ofChange descWholeSpec)

/-- ITS FALSE NEIGHBOUR: 'it returns false'. Refute it at one input. -/
def descWholeWrong : ChangeSpec := { name := "descWhole", fn := fun _ => fun
  | [d1, d2] => { results := [.lit (.bool false)], args := [d1, d2] }
  | _ => none }
def DescWholeWrongFalsely : Prop := descWholeRow.holds Try.pinned (OpenSpec.ofChange descWholeWrong)

/-- 'regletlaw02.DescNames': WHATEVER THE INPUT: true; the input reads as it did. -/
def descNamesSpec : ChangeSpec := { name := "descNames", fn := fun _ => fun
  | [d] => { results := [.lit (.bool true)], args := [d] }
  | _ => none }
def descNamesRow : OpenClaim := { program := "ytbbogkhidaekoaa", sum := "87367b96a24277ca27ec6c1b168c011d90f96c48dccacce25e61abcac5572500", func := "reglet/regletlaw02.DescNames", spec := "descNames", inPlace := ["internal/bytealg.IndexByteString", "internal/bytealg.IndexString"], named := ["internal/bytealg.MaxLen"], apart := false }
def DescNamesSaid : Prop := descNamesRow.holds Try.pinned (OpenSpec.ofChange descNamesSpec)

/-- ITS FALSE NEIGHBOUR: 'it returns false'. Refute it at one input. -/
def descNamesWrong : ChangeSpec := { name := "descNames", fn := fun _ => fun
  | [d] => { results := [.lit (.bool false)], args := [d] }
  | _ => none }
def DescNamesWrongFalsely : Prop := descNamesRow.holds Try.pinned (OpenSpec.ofChange descNamesWrong)

/-- 'regletlaw02.DescMethods': WHATEVER THE INPUT: true; the input reads as it did. -/
def descMethodsSpec : ChangeSpec := { name := "descMethods", fn := fun _ => fun
  | [d] => { results := [.lit (.bool true)], args := [d] }
  | _ => none }
def descMethodsRow : OpenClaim := { program := "ytbbogkhidaekoaa", sum := "87367b96a24277ca27ec6c1b168c011d90f96c48dccacce25e61abcac5572500", func := "reglet/regletlaw02.DescMethods", spec := "descMethods", inPlace := ["internal/bytealg.IndexByteString", "internal/bytealg.IndexString"], named := ["internal/bytealg.MaxLen"], apart := false }
def DescMethodsSaid : Prop := descMethodsRow.holds Try.pinned (OpenSpec.ofChange descMethodsSpec)

/-- ITS FALSE NEIGHBOUR: 'it returns false'. Refute it at one input. -/
def descMethodsWrong : ChangeSpec := { name := "descMethods", fn := fun _ => fun
  | [d] => { results := [.lit (.bool false)], args := [d] }
  | _ => none }
def DescMethodsWrongFalsely : Prop := descMethodsRow.holds Try.pinned (OpenSpec.ofChange descMethodsWrong)

/-- 'regletlaw02.DescLimits': WHATEVER THE INPUT: true; the input reads as it did. -/
def descLimitsSpec : ChangeSpec := { name := "descLimits", fn := fun _ => fun
  | [d1, d2] => { results := [.lit (.bool true)], args := [d1, d2] }
  | _ => none }
def descLimitsRow : OpenClaim := { program := "ytbbogkhidaekoaa", sum := "87367b96a24277ca27ec6c1b168c011d90f96c48dccacce25e61abcac5572500", func := "reglet/regletlaw02.DescLimits", spec := "descLimits", inPlace := ["internal/abi.NoEscape", "internal/bytealg.MakeNoZero"], apart := false }
def DescLimitsSaid : Prop := descLimitsRow.holds Try.pinned (OpenSpec.ofChange descLimitsSpec)

/-- ITS FALSE NEIGHBOUR: 'it returns false'. Refute it at one input. -/
def descLimitsWrong : ChangeSpec := { name := "descLimits", fn := fun _ => fun
  | [d1, d2] => { results := [.lit (.bool false)], args := [d1, d2] }
  | _ => none }
def DescLimitsWrongFalsely : Prop := descLimitsRow.holds Try.pinned (OpenSpec.ofChange descLimitsWrong)

/- THE SECOND FORM. 'bulk': how many values and letters a reading holds, each counted each time it is reached (what is shared counts as often as it is met; a slice's spare places count too). A statement '..UptoSaid' is the law's where the arguments, and the package variables that the reading takes, are together of bulk at most 1048576: NARROWER than '..Said'. Prove '..Said' where nothing that the law and all that it calls make is longer than what came in: it says more and counts as full. Else prove '..UptoSaid'. A law counts once. -/
mutual
def uptoBulk {H : Type} : DataW H → Nat
  | .lit (.string bytes) => bytes.length + 1
  | .lit _ => 1
  | .nil => 1
  | .ptr d => uptoBulk d + 1
  | .slice elems spare => uptoBulkAll elems + uptoBulkAll spare + 1
  | .agg parts => uptoBulkAll parts + 1
  | .iface _ d => uptoBulk d + 1
  | .map entries => uptoBulkEntries entries + 1
  | .held _ => 1
def uptoBulkAll {H : Type} : List (DataW H) → Nat
  | [] => 0
  | d :: r => uptoBulk d + uptoBulkAll r
def uptoBulkEntries {H : Type} : List (Lit × DataW H) → Nat
  | [] => 0
  | x :: r => uptoBulkEntry x + uptoBulkEntries r
def uptoBulkEntry {H : Type} : Lit × DataW H → Nat
  | (.string bytes, d) => bytes.length + uptoBulk d + 1
  | (_, d) => uptoBulk d + 1
 end
def uptoSmall : (H : Type) → List (DataW H) → Bool := fun _ ds => decide (uptoBulkAll ds ≤ 1048576)
def OpenSpec.upto (s : _root_.Go.ChangeSpec) : _root_.Go.OpenSpec := { _root_.Go.OpenSpec.ofChange s with cond := some uptoSmall }

/-- 'regletlaw02.DescParts', WHERE WHAT IT READS IS OF BULK AT MOST 1048576: true; the input reads as it did. -/
def descPartsUptoRow : OpenClaim := { program := "ytbbogkhidaekoaa", sum := "87367b96a24277ca27ec6c1b168c011d90f96c48dccacce25e61abcac5572500", func := "reglet/regletlaw02.DescParts", spec := "descParts", apart := false, narrowed := true }
def DescPartsUptoSaid : Prop := descPartsUptoRow.holds Try.pinned (OpenSpec.upto descPartsSpec)

/-- 'regletlaw02.DescArrays', WHERE WHAT IT READS IS OF BULK AT MOST 1048576: true; the input reads as it did. -/
def descArraysUptoRow : OpenClaim := { program := "ytbbogkhidaekoaa", sum := "87367b96a24277ca27ec6c1b168c011d90f96c48dccacce25e61abcac5572500", func := "reglet/regletlaw02.DescArrays", spec := "descArrays", apart := false, narrowed := true }
def DescArraysUptoSaid : Prop := descArraysUptoRow.holds Try.pinned (OpenSpec.upto descArraysSpec)

/-- 'regletlaw02.DescWhole', WHERE WHAT IT READS IS OF BULK AT MOST 1048576: true; the input reads as it did. -/
def descWholeUptoRow : OpenClaim := { program := "ytbbogkhidaekoaa", sum := "87367b96a24277ca27ec6c1b168c011d90f96c48dccacce25e61abcac5572500", func := "reglet/regletlaw02.DescWhole", spec := "descWhole", inPlace := ["internal/abi.NoEscape", "internal/bytealg.MakeNoZero"], apart := false, narrowed := true }
def DescWholeUptoSaid : Prop := descWholeUptoRow.holds Try.pinned (OpenSpec.upto descWholeSpec)

/-- 'regletlaw02.DescNames', WHERE WHAT IT READS IS OF BULK AT MOST 1048576: true; the input reads as it did. -/
def descNamesUptoRow : OpenClaim := { program := "ytbbogkhidaekoaa", sum := "87367b96a24277ca27ec6c1b168c011d90f96c48dccacce25e61abcac5572500", func := "reglet/regletlaw02.DescNames", spec := "descNames", inPlace := ["internal/bytealg.IndexByteString", "internal/bytealg.IndexString"], named := ["internal/bytealg.MaxLen"], apart := false, narrowed := true }
def DescNamesUptoSaid : Prop := descNamesUptoRow.holds Try.pinned (OpenSpec.upto descNamesSpec)

/-- 'regletlaw02.DescMethods', WHERE WHAT IT READS IS OF BULK AT MOST 1048576: true; the input reads as it did. -/
def descMethodsUptoRow : OpenClaim := { program := "ytbbogkhidaekoaa", sum := "87367b96a24277ca27ec6c1b168c011d90f96c48dccacce25e61abcac5572500", func := "reglet/regletlaw02.DescMethods", spec := "descMethods", inPlace := ["internal/bytealg.IndexByteString", "internal/bytealg.IndexString"], named := ["internal/bytealg.MaxLen"], apart := false, narrowed := true }
def DescMethodsUptoSaid : Prop := descMethodsUptoRow.holds Try.pinned (OpenSpec.upto descMethodsSpec)

/-- 'regletlaw02.DescLimits', WHERE WHAT IT READS IS OF BULK AT MOST 1048576: true; the input reads as it did. -/
def descLimitsUptoRow : OpenClaim := { program := "ytbbogkhidaekoaa", sum := "87367b96a24277ca27ec6c1b168c011d90f96c48dccacce25e61abcac5572500", func := "reglet/regletlaw02.DescLimits", spec := "descLimits", inPlace := ["internal/abi.NoEscape", "internal/bytealg.MakeNoZero"], apart := false, narrowed := true }
def DescLimitsUptoSaid : Prop := descLimitsUptoRow.holds Try.pinned (OpenSpec.upto descLimitsSpec)

end Rows
end Go.Proofs.Ytbbogkhidaekoaa
