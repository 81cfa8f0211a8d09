/-
  No cell of these rows narrows 'for every input' (looked for: loops, veiled, ifaces, maps, wideKeys, modest, calm, conditions, laid).
  DERIVED. THE GIVEN ROWS OF THIS SEAT. 5 by the template 'for every input the law returns true; each argument reads behind the call as it read before'; 0 by the template 'total and deterministic' (their statements: YtedfombojnfbiaaTotals.lean).
  GIVEN WITH THE SEED: the statements are not yours to turn. If you find one false, say at which input.
  Laid BY PROGRAM, IN A SANDBOX (cutbox-rows.mjs): the forced cells as the released guide's own fill.sh prints them over the translation 4dbf14a9a39381a2… (all of the seat's roots in one cut). By AI agents, Wed Nov 11 2026. No macro, syntax, notation, axiom, sorry.
-/
import Derived.Test.YtedfombojnfbiaaChecked
import GoSem.Claim
import GoSem.ClaimJoined
import GoSem.ClaimMapViews
import Derived.JoinedTies
import Derived.KernelRfl
namespace Go.Proofs.Ytedfombojnfbiaa
/- THE CELL 'sum', in the pinned program and in every row, IS THE sha256 OF THE DUMP (.gsa) THAT YtedfombojnfbiaaProg.lean LOADS. Nothing in Lean hashes anything: it is a label: what it is worth is what the hold of that sum in a sandbox is worth. -/
noncomputable def Try.pinned : Pinned := { name := "ytedfombojnfbiaa", sum := "4dbf14a9a39381a291f09549e7ae8a291514da8b898850d112f8fc761b8d02e8", checked := Try.checked }
namespace Rows
def none {H : Type} : Left H := { results := [], args := [] }

/-- 'eggboxlaw24.PiecesWords': WHATEVER THE INPUT: true; the input reads as it did. -/
def piecesWordsSpec : ChangeSpec := { name := "piecesWords", fn := fun _ => fun
  | [d1, d2, d3] => { results := [.lit (.bool true)], args := [d1, d2, d3] }
  | _ => none }
def piecesWordsRow : OpenClaim := { program := "ytedfombojnfbiaa", sum := "4dbf14a9a39381a291f09549e7ae8a291514da8b898850d112f8fc761b8d02e8", func := "eggbox/eggboxlaw24.PiecesWords", spec := "piecesWords", plainKeys := false, apart := false }
def PiecesWordsSaid : Prop := piecesWordsRow.holds Try.pinned (OpenSpec.ofChange piecesWordsSpec)

/-- ITS FALSE NEIGHBOUR: 'it returns false'. Refute it at one input. -/
def piecesWordsWrong : ChangeSpec := { name := "piecesWords", fn := fun _ => fun
  | [d1, d2, d3] => { results := [.lit (.bool false)], args := [d1, d2, d3] }
  | _ => none }
def PiecesWordsWrongFalsely : Prop := piecesWordsRow.holds Try.pinned (OpenSpec.ofChange piecesWordsWrong)

/-- 'eggboxlaw24.PiecesPowers': WHATEVER THE INPUT: true; the input reads as it did. -/
def piecesPowersSpec : ChangeSpec := { name := "piecesPowers", fn := fun _ => fun
  | [d1, d2, d3, d4] => { results := [.lit (.bool true)], args := [d1, d2, d3, d4] }
  | _ => none }
def piecesPowersRow : OpenClaim := { program := "ytedfombojnfbiaa", sum := "4dbf14a9a39381a291f09549e7ae8a291514da8b898850d112f8fc761b8d02e8", func := "eggbox/eggboxlaw24.PiecesPowers", spec := "piecesPowers", plainKeys := false, apart := false }
def PiecesPowersSaid : Prop := piecesPowersRow.holds Try.pinned (OpenSpec.ofChange piecesPowersSpec)

/-- ITS FALSE NEIGHBOUR: 'it returns false'. Refute it at one input. -/
def piecesPowersWrong : ChangeSpec := { name := "piecesPowers", fn := fun _ => fun
  | [d1, d2, d3, d4] => { results := [.lit (.bool false)], args := [d1, d2, d3, d4] }
  | _ => none }
def PiecesPowersWrongFalsely : Prop := piecesPowersRow.holds Try.pinned (OpenSpec.ofChange piecesPowersWrong)

/-- 'eggboxlaw24.PiecesTells': WHATEVER THE INPUT: true; the input reads as it did. -/
def piecesTellsSpec : ChangeSpec := { name := "piecesTells", fn := fun _ => fun
  | [d1, d2, d3, d4] => { results := [.lit (.bool true)], args := [d1, d2, d3, d4] }
  | _ => none }
def piecesTellsRow : OpenClaim := { program := "ytedfombojnfbiaa", sum := "4dbf14a9a39381a291f09549e7ae8a291514da8b898850d112f8fc761b8d02e8", func := "eggbox/eggboxlaw24.PiecesTells", spec := "piecesTells", plainKeys := false, apart := false }
def PiecesTellsSaid : Prop := piecesTellsRow.holds Try.pinned (OpenSpec.ofChange piecesTellsSpec)

/-- ITS FALSE NEIGHBOUR: 'it returns false'. Refute it at one input. -/
def piecesTellsWrong : ChangeSpec := { name := "piecesTells", fn := fun _ => fun
  | [d1, d2, d3, d4] => { results := [.lit (.bool false)], args := [d1, d2, d3, d4] }
  | _ => none }
def PiecesTellsWrongFalsely : Prop := piecesTellsRow.holds Try.pinned (OpenSpec.ofChange piecesTellsWrong)

/-- 'eggboxlaw24.PiecesCongruent': WHATEVER THE INPUT: true; the input reads as it did. -/
def piecesCongruentSpec : ChangeSpec := { name := "piecesCongruent", fn := fun _ => fun
  | [d1, d2, d3, d4, d5, d6] => { results := [.lit (.bool true)], args := [d1, d2, d3, d4, d5, d6] }
  | _ => none }
def piecesCongruentRow : OpenClaim := { program := "ytedfombojnfbiaa", sum := "4dbf14a9a39381a291f09549e7ae8a291514da8b898850d112f8fc761b8d02e8", func := "eggbox/eggboxlaw24.PiecesCongruent", spec := "piecesCongruent", plainKeys := false, apart := false }
def PiecesCongruentSaid : Prop := piecesCongruentRow.holds Try.pinned (OpenSpec.ofChange piecesCongruentSpec)

/-- ITS FALSE NEIGHBOUR: 'it returns false'. Refute it at one input. -/
def piecesCongruentWrong : ChangeSpec := { name := "piecesCongruent", fn := fun _ => fun
  | [d1, d2, d3, d4, d5, d6] => { results := [.lit (.bool false)], args := [d1, d2, d3, d4, d5, d6] }
  | _ => none }
def PiecesCongruentWrongFalsely : Prop := piecesCongruentRow.holds Try.pinned (OpenSpec.ofChange piecesCongruentWrong)

/-- 'eggboxlaw24.PiecesLeast': WHATEVER THE INPUT: true; the input reads as it did. -/
def piecesLeastSpec : ChangeSpec := { name := "piecesLeast", fn := fun _ => fun
  | [d1, d2, d3, d4, d5, d6] => { results := [.lit (.bool true)], args := [d1, d2, d3, d4, d5, d6] }
  | _ => none }
def piecesLeastRow : OpenClaim := { program := "ytedfombojnfbiaa", sum := "4dbf14a9a39381a291f09549e7ae8a291514da8b898850d112f8fc761b8d02e8", func := "eggbox/eggboxlaw24.PiecesLeast", spec := "piecesLeast", inPlace := ["internal/bytealg.abigen_runtime_cmpstring"], plainKeys := false, apart := false }
def PiecesLeastSaid : Prop := piecesLeastRow.holds Try.pinned (OpenSpec.ofChange piecesLeastSpec)

/-- ITS FALSE NEIGHBOUR: 'it returns false'. Refute it at one input. -/
def piecesLeastWrong : ChangeSpec := { name := "piecesLeast", fn := fun _ => fun
  | [d1, d2, d3, d4, d5, d6] => { results := [.lit (.bool false)], args := [d1, d2, d3, d4, d5, d6] }
  | _ => none }
def PiecesLeastWrongFalsely : Prop := piecesLeastRow.holds Try.pinned (OpenSpec.ofChange piecesLeastWrong)

/- THE SECOND FORM. 'bulk': how many values and letters a reading holds, each counted each time it is reached (what is shared counts as often as it is met; a slice's spare places count too). A statement '..UptoSaid' is the law's where the arguments, and the package variables that the reading takes, are together of bulk at most 1048576: NARROWER than '..Said'. Prove '..Said' where nothing that the law and all that it calls make is longer than what came in: it says more and counts as full. Else prove '..UptoSaid'. A law counts once. -/
mutual
def uptoBulk {H : Type} : DataW H → Nat
  | .lit (.string bytes) => bytes.length + 1
  | .lit _ => 1
  | .nil => 1
  | .ptr d => uptoBulk d + 1
  | .slice elems spare => uptoBulkAll elems + uptoBulkAll spare + 1
  | .agg parts => uptoBulkAll parts + 1
  | .iface _ d => uptoBulk d + 1
  | .map entries => uptoBulkEntries entries + 1
  | .held _ => 1
def uptoBulkAll {H : Type} : List (DataW H) → Nat
  | [] => 0
  | d :: r => uptoBulk d + uptoBulkAll r
def uptoBulkEntries {H : Type} : List (Lit × DataW H) → Nat
  | [] => 0
  | x :: r => uptoBulkEntry x + uptoBulkEntries r
def uptoBulkEntry {H : Type} : Lit × DataW H → Nat
  | (.string bytes, d) => bytes.length + uptoBulk d + 1
  | (_, d) => uptoBulk d + 1
 end
def uptoSmall : (H : Type) → List (DataW H) → Bool := fun _ ds => decide (uptoBulkAll ds ≤ 1048576)
def OpenSpec.upto (s : _root_.Go.ChangeSpec) : _root_.Go.OpenSpec := { _root_.Go.OpenSpec.ofChange s with cond := some uptoSmall }

/-- 'eggboxlaw24.PiecesWords', WHERE WHAT IT READS IS OF BULK AT MOST 1048576: true; the input reads as it did. -/
def piecesWordsUptoRow : OpenClaim := { program := "ytedfombojnfbiaa", sum := "4dbf14a9a39381a291f09549e7ae8a291514da8b898850d112f8fc761b8d02e8", func := "eggbox/eggboxlaw24.PiecesWords", spec := "piecesWords", plainKeys := false, apart := false, narrowed := true }
def PiecesWordsUptoSaid : Prop := piecesWordsUptoRow.holds Try.pinned (OpenSpec.upto piecesWordsSpec)

/-- 'eggboxlaw24.PiecesPowers', WHERE WHAT IT READS IS OF BULK AT MOST 1048576: true; the input reads as it did. -/
def piecesPowersUptoRow : OpenClaim := { program := "ytedfombojnfbiaa", sum := "4dbf14a9a39381a291f09549e7ae8a291514da8b898850d112f8fc761b8d02e8", func := "eggbox/eggboxlaw24.PiecesPowers", spec := "piecesPowers", plainKeys := false, apart := false, narrowed := true }
def PiecesPowersUptoSaid : Prop := piecesPowersUptoRow.holds Try.pinned (OpenSpec.upto piecesPowersSpec)

/-- 'eggboxlaw24.PiecesTells', WHERE WHAT IT READS IS OF BULK AT MOST 1048576: true; the input reads as it did. -/
def piecesTellsUptoRow : OpenClaim := { program := "ytedfombojnfbiaa", sum := "4dbf14a9a39381a291f09549e7ae8a291514da8b898850d112f8fc761b8d02e8", func := "eggbox/eggboxlaw24.PiecesTells", spec := "piecesTells", plainKeys := false, apart := false, narrowed := true }
def PiecesTellsUptoSaid : Prop := piecesTellsUptoRow.holds Try.pinned (OpenSpec.upto piecesTellsSpec)

/-- 'eggboxlaw24.PiecesCongruent', WHERE WHAT IT READS IS OF BULK AT MOST 1048576: true; the input reads as it did. -/
def piecesCongruentUptoRow : OpenClaim := { program := "ytedfombojnfbiaa", sum := "4dbf14a9a39381a291f09549e7ae8a291514da8b898850d112f8fc761b8d02e8", func := "eggbox/eggboxlaw24.PiecesCongruent", spec := "piecesCongruent", plainKeys := false, apart := false, narrowed := true }
def PiecesCongruentUptoSaid : Prop := piecesCongruentUptoRow.holds Try.pinned (OpenSpec.upto piecesCongruentSpec)

/-- 'eggboxlaw24.PiecesLeast', WHERE WHAT IT READS IS OF BULK AT MOST 1048576: true; the input reads as it did. -/
def piecesLeastUptoRow : OpenClaim := { program := "ytedfombojnfbiaa", sum := "4dbf14a9a39381a291f09549e7ae8a291514da8b898850d112f8fc761b8d02e8", func := "eggbox/eggboxlaw24.PiecesLeast", spec := "piecesLeast", inPlace := ["internal/bytealg.abigen_runtime_cmpstring"], plainKeys := false, apart := false, narrowed := true }
def PiecesLeastUptoSaid : Prop := piecesLeastUptoRow.holds Try.pinned (OpenSpec.upto piecesLeastSpec)

end Rows
end Go.Proofs.Ytedfombojnfbiaa
