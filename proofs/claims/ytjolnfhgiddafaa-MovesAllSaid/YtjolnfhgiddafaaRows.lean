/-
  No cell of these rows narrows 'for every input' (looked for: loops, veiled, ifaces, maps, wideKeys, modest, calm, conditions, laid).
  DERIVED. THE GIVEN ROWS OF THIS SEAT. 5 by the template 'for every input the law returns true; each argument reads behind the call as it read before'; 0 by the template 'total and deterministic' (their statements: YtjolnfhgiddafaaTotals.lean).
  GIVEN WITH THE SEED: the statements are not yours to turn. If you find one false, say at which input.
  Laid BY PROGRAM, IN A SANDBOX (cutbox-rows.mjs): the forced cells as the released guide's own fill.sh prints them over the translation de6b4cd5df886e94… (all of the seat's roots in one cut). By AI agents, Wed Nov 11 2026. No macro, syntax, notation, axiom, sorry.
-/
import Derived.Test.YtjolnfhgiddafaaChecked
import GoSem.Claim
import GoSem.ClaimJoined
import GoSem.ClaimMapViews
import Derived.JoinedTies
import Derived.KernelRfl
namespace Go.Proofs.Ytjolnfhgiddafaa
/- THE CELL 'sum', in the pinned program and in every row, IS THE sha256 OF THE DUMP (.gsa) THAT YtjolnfhgiddafaaProg.lean LOADS. Nothing in Lean hashes anything: it is a label: what it is worth is what the hold of that sum in a sandbox is worth. -/
noncomputable def Try.pinned : Pinned := { name := "ytjolnfhgiddafaa", sum := "de6b4cd5df886e940da43f299184f137b3bca08d5bf408d1ae4cfc233418e0ec", checked := Try.checked }
namespace Rows
def none {H : Type} : Left H := { results := [], args := [] }

/-- 'regletlaw18.MovesDo': WHATEVER THE INPUT: true; the input reads as it did. -/
def movesDoSpec : ChangeSpec := { name := "movesDo", fn := fun _ => fun
  | [d1, d2] => { results := [.lit (.bool true)], args := [d1, d2] }
  | _ => none }
def movesDoRow : OpenClaim := { program := "ytjolnfhgiddafaa", sum := "de6b4cd5df886e940da43f299184f137b3bca08d5bf408d1ae4cfc233418e0ec", func := "reglet/regletlaw18.MovesDo", spec := "movesDo", unfollowed := true, recurses := true, apart := false }
def MovesDoSaid : Prop := movesDoRow.holds Try.pinned (OpenSpec.ofChange movesDoSpec)

/-- ITS FALSE NEIGHBOUR: 'it returns false'. Refute it at one input. -/
def movesDoWrong : ChangeSpec := { name := "movesDo", fn := fun _ => fun
  | [d1, d2] => { results := [.lit (.bool false)], args := [d1, d2] }
  | _ => none }
def MovesDoWrongFalsely : Prop := movesDoRow.holds Try.pinned (OpenSpec.ofChange movesDoWrong)

/-- 'regletlaw18.MovesPlain': WHATEVER THE INPUT: true; the input reads as it did. -/
def movesPlainSpec : ChangeSpec := { name := "movesPlain", fn := fun _ => fun
  | [d1, d2] => { results := [.lit (.bool true)], args := [d1, d2] }
  | _ => none }
def movesPlainRow : OpenClaim := { program := "ytjolnfhgiddafaa", sum := "de6b4cd5df886e940da43f299184f137b3bca08d5bf408d1ae4cfc233418e0ec", func := "reglet/regletlaw18.MovesPlain", spec := "movesPlain", unfollowed := true, recurses := true, apart := false }
def MovesPlainSaid : Prop := movesPlainRow.holds Try.pinned (OpenSpec.ofChange movesPlainSpec)

/-- ITS FALSE NEIGHBOUR: 'it returns false'. Refute it at one input. -/
def movesPlainWrong : ChangeSpec := { name := "movesPlain", fn := fun _ => fun
  | [d1, d2] => { results := [.lit (.bool false)], args := [d1, d2] }
  | _ => none }
def MovesPlainWrongFalsely : Prop := movesPlainRow.holds Try.pinned (OpenSpec.ofChange movesPlainWrong)

/-- 'regletlaw18.MovesTurn': WHATEVER THE INPUT: true; the input reads as it did. -/
def movesTurnSpec : ChangeSpec := { name := "movesTurn", fn := fun _ => fun
  | [d1, d2] => { results := [.lit (.bool true)], args := [d1, d2] }
  | _ => none }
def movesTurnRow : OpenClaim := { program := "ytjolnfhgiddafaa", sum := "de6b4cd5df886e940da43f299184f137b3bca08d5bf408d1ae4cfc233418e0ec", func := "reglet/regletlaw18.MovesTurn", spec := "movesTurn", unfollowed := true, recurses := true, apart := false }
def MovesTurnSaid : Prop := movesTurnRow.holds Try.pinned (OpenSpec.ofChange movesTurnSpec)

/-- ITS FALSE NEIGHBOUR: 'it returns false'. Refute it at one input. -/
def movesTurnWrong : ChangeSpec := { name := "movesTurn", fn := fun _ => fun
  | [d1, d2] => { results := [.lit (.bool false)], args := [d1, d2] }
  | _ => none }
def MovesTurnWrongFalsely : Prop := movesTurnRow.holds Try.pinned (OpenSpec.ofChange movesTurnWrong)

/-- 'regletlaw18.MovesAll': WHATEVER THE INPUT: true; the input reads as it did. -/
def movesAllSpec : ChangeSpec := { name := "movesAll", fn := fun _ => fun
  | [d] => { results := [.lit (.bool true)], args := [d] }
  | _ => none }
def movesAllRow : OpenClaim := { program := "ytjolnfhgiddafaa", sum := "de6b4cd5df886e940da43f299184f137b3bca08d5bf408d1ae4cfc233418e0ec", func := "reglet/regletlaw18.MovesAll", spec := "movesAll", unfollowed := true, recurses := true, apart := false }
def MovesAllSaid : Prop := movesAllRow.holds Try.pinned (OpenSpec.ofChange movesAllSpec)

/-- ITS FALSE NEIGHBOUR: 'it returns false'. Refute it at one input. -/
def movesAllWrong : ChangeSpec := { name := "movesAll", fn := fun _ => fun
  | [d] => { results := [.lit (.bool false)], args := [d] }
  | _ => none }
def MovesAllWrongFalsely : Prop := movesAllRow.holds Try.pinned (OpenSpec.ofChange movesAllWrong)

/-- 'regletlaw18.MovesRefuse': WHATEVER THE INPUT: true; the input reads as it did. -/
def movesRefuseSpec : ChangeSpec := { name := "movesRefuse", fn := fun _ => fun
  | [d1, d2] => { results := [.lit (.bool true)], args := [d1, d2] }
  | _ => none }
def movesRefuseRow : OpenClaim := { program := "ytjolnfhgiddafaa", sum := "de6b4cd5df886e940da43f299184f137b3bca08d5bf408d1ae4cfc233418e0ec", func := "reglet/regletlaw18.MovesRefuse", spec := "movesRefuse", unfollowed := true, recurses := true, apart := false }
def MovesRefuseSaid : Prop := movesRefuseRow.holds Try.pinned (OpenSpec.ofChange movesRefuseSpec)

/-- ITS FALSE NEIGHBOUR: 'it returns false'. Refute it at one input. -/
def movesRefuseWrong : ChangeSpec := { name := "movesRefuse", fn := fun _ => fun
  | [d1, d2] => { results := [.lit (.bool false)], args := [d1, d2] }
  | _ => none }
def MovesRefuseWrongFalsely : Prop := movesRefuseRow.holds Try.pinned (OpenSpec.ofChange movesRefuseWrong)

/- THE SECOND FORM. 'bulk': how many values and letters a reading holds, each counted each time it is reached (what is shared counts as often as it is met; a slice's spare places count too). A statement '..UptoSaid' is the law's where the arguments, and the package variables that the reading takes, are together of bulk at most 1048576: NARROWER than '..Said'. Prove '..Said' where nothing that the law and all that it calls make is longer than what came in: it says more and counts as full. Else prove '..UptoSaid'. A law counts once. -/
mutual
def uptoBulk {H : Type} : DataW H → Nat
  | .lit (.string bytes) => bytes.length + 1
  | .lit _ => 1
  | .nil => 1
  | .ptr d => uptoBulk d + 1
  | .slice elems spare => uptoBulkAll elems + uptoBulkAll spare + 1
  | .agg parts => uptoBulkAll parts + 1
  | .iface _ d => uptoBulk d + 1
  | .map entries => uptoBulkEntries entries + 1
  | .held _ => 1
def uptoBulkAll {H : Type} : List (DataW H) → Nat
  | [] => 0
  | d :: r => uptoBulk d + uptoBulkAll r
def uptoBulkEntries {H : Type} : List (Lit × DataW H) → Nat
  | [] => 0
  | x :: r => uptoBulkEntry x + uptoBulkEntries r
def uptoBulkEntry {H : Type} : Lit × DataW H → Nat
  | (.string bytes, d) => bytes.length + uptoBulk d + 1
  | (_, d) => uptoBulk d + 1
 end
def uptoSmall : (H : Type) → List (DataW H) → Bool := fun _ ds => decide (uptoBulkAll ds ≤ 1048576)
def OpenSpec.upto (s : _root_.Go.ChangeSpec) : _root_.Go.OpenSpec := { _root_.Go.OpenSpec.ofChange s with cond := some uptoSmall }

/-- 'regletlaw18.MovesDo', WHERE WHAT IT READS IS OF BULK AT MOST 1048576: true; the input reads as it did. -/
def movesDoUptoRow : OpenClaim := { program := "ytjolnfhgiddafaa", sum := "de6b4cd5df886e940da43f299184f137b3bca08d5bf408d1ae4cfc233418e0ec", func := "reglet/regletlaw18.MovesDo", spec := "movesDo", unfollowed := true, recurses := true, apart := false, narrowed := true }
def MovesDoUptoSaid : Prop := movesDoUptoRow.holds Try.pinned (OpenSpec.upto movesDoSpec)

/-- 'regletlaw18.MovesPlain', WHERE WHAT IT READS IS OF BULK AT MOST 1048576: true; the input reads as it did. -/
def movesPlainUptoRow : OpenClaim := { program := "ytjolnfhgiddafaa", sum := "de6b4cd5df886e940da43f299184f137b3bca08d5bf408d1ae4cfc233418e0ec", func := "reglet/regletlaw18.MovesPlain", spec := "movesPlain", unfollowed := true, recurses := true, apart := false, narrowed := true }
def MovesPlainUptoSaid : Prop := movesPlainUptoRow.holds Try.pinned (OpenSpec.upto movesPlainSpec)

/-- 'regletlaw18.MovesTurn', WHERE WHAT IT READS IS OF BULK AT MOST 1048576: true; the input reads as it did. -/
def movesTurnUptoRow : OpenClaim := { program := "ytjolnfhgiddafaa", sum := "de6b4cd5df886e940da43f299184f137b3bca08d5bf408d1ae4cfc233418e0ec", func := "reglet/regletlaw18.MovesTurn", spec := "movesTurn", unfollowed := true, recurses := true, apart := false, narrowed := true }
def MovesTurnUptoSaid : Prop := movesTurnUptoRow.holds Try.pinned (OpenSpec.upto movesTurnSpec)

/-- 'regletlaw18.MovesAll', WHERE WHAT IT READS IS OF BULK AT MOST 1048576: true; the input reads as it did. -/
def movesAllUptoRow : OpenClaim := { program := "ytjolnfhgiddafaa", sum := "de6b4cd5df886e940da43f299184f137b3bca08d5bf408d1ae4cfc233418e0ec", func := "reglet/regletlaw18.MovesAll", spec := "movesAll", unfollowed := true, recurses := true, apart := false, narrowed := true }
def MovesAllUptoSaid : Prop := movesAllUptoRow.holds Try.pinned (OpenSpec.upto movesAllSpec)

/-- 'regletlaw18.MovesRefuse', WHERE WHAT IT READS IS OF BULK AT MOST 1048576: true; the input reads as it did. -/
def movesRefuseUptoRow : OpenClaim := { program := "ytjolnfhgiddafaa", sum := "de6b4cd5df886e940da43f299184f137b3bca08d5bf408d1ae4cfc233418e0ec", func := "reglet/regletlaw18.MovesRefuse", spec := "movesRefuse", unfollowed := true, recurses := true, apart := false, narrowed := true }
def MovesRefuseUptoSaid : Prop := movesRefuseUptoRow.holds Try.pinned (OpenSpec.upto movesRefuseSpec)

end Rows
end Go.Proofs.Ytjolnfhgiddafaa
