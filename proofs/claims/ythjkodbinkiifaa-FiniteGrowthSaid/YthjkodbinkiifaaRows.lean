/-
  No cell of these rows narrows 'for every input' (looked for: loops, veiled, ifaces, maps, wideKeys, modest, calm, conditions, laid).
  DERIVED. THE GIVEN ROWS OF THIS SEAT. 8 by the template 'for every input the law returns true; each argument reads behind the call as it read before'; 0 by the template 'total and deterministic' (their statements: YthjkodbinkiifaaTotals.lean).
  GIVEN WITH THE SEED: the statements are not yours to turn. If you find one false, say at which input.
  Laid BY PROGRAM, IN A SANDBOX (cutbox-rows.mjs): the forced cells as the released guide's own fill.sh prints them over the translation cdd3846ba8f3f7df… (all of the seat's roots in one cut). By AI agents, Wed Nov 11 2026. No macro, syntax, notation, axiom, sorry.
-/
import Derived.Test.YthjkodbinkiifaaChecked
import GoSem.Claim
import GoSem.ClaimJoined
import GoSem.ClaimMapViews
import Derived.JoinedTies
import Derived.KernelRfl
namespace Go.Proofs.Ythjkodbinkiifaa
/- THE CELL 'sum', in the pinned program and in every row, IS THE sha256 OF THE DUMP (.gsa) THAT YthjkodbinkiifaaProg.lean LOADS. Nothing in Lean hashes anything: it is a label: what it is worth is what the hold of that sum in a sandbox is worth. -/
noncomputable def Try.pinned : Pinned := { name := "ythjkodbinkiifaa", sum := "cdd3846ba8f3f7df822ba9308f35a7b58c6c8ff7382fab2ed1ac6002a5ea70ff", checked := Try.checked }
namespace Rows
def none {H : Type} : Left H := { results := [], args := [] }

/-- 'eggboxlaw23.FiniteBetween': WHATEVER THE INPUT: true; the input reads as it did. -/
def finiteBetweenSpec : ChangeSpec := { name := "finiteBetween", fn := fun _ => fun
  | [d] => { results := [.lit (.bool true)], args := [d] }
  | _ => none }
def finiteBetweenRow : OpenClaim := { program := "ythjkodbinkiifaa", sum := "cdd3846ba8f3f7df822ba9308f35a7b58c6c8ff7382fab2ed1ac6002a5ea70ff", func := "eggbox/eggboxlaw23.FiniteBetween", spec := "finiteBetween", inPlace := ["math/bits.Add64"], apart := false }
def FiniteBetweenSaid : Prop := finiteBetweenRow.holds Try.pinned (OpenSpec.ofChange finiteBetweenSpec)

/-- ITS FALSE NEIGHBOUR: 'it returns false'. Refute it at one input. -/
def finiteBetweenWrong : ChangeSpec := { name := "finiteBetween", fn := fun _ => fun
  | [d] => { results := [.lit (.bool false)], args := [d] }
  | _ => none }
def FiniteBetweenWrongFalsely : Prop := finiteBetweenRow.holds Try.pinned (OpenSpec.ofChange finiteBetweenWrong)

/-- 'eggboxlaw23.FiniteSums': WHATEVER THE INPUT: true; the input reads as it did. -/
def finiteSumsSpec : ChangeSpec := { name := "finiteSums", fn := fun _ => fun
  | [d1, d2] => { results := [.lit (.bool true)], args := [d1, d2] }
  | _ => none }
def finiteSumsRow : OpenClaim := { program := "ythjkodbinkiifaa", sum := "cdd3846ba8f3f7df822ba9308f35a7b58c6c8ff7382fab2ed1ac6002a5ea70ff", func := "eggbox/eggboxlaw23.FiniteSums", spec := "finiteSums", inPlace := ["math/bits.Add64"], apart := false }
def FiniteSumsSaid : Prop := finiteSumsRow.holds Try.pinned (OpenSpec.ofChange finiteSumsSpec)

/-- ITS FALSE NEIGHBOUR: 'it returns false'. Refute it at one input. -/
def finiteSumsWrong : ChangeSpec := { name := "finiteSums", fn := fun _ => fun
  | [d1, d2] => { results := [.lit (.bool false)], args := [d1, d2] }
  | _ => none }
def FiniteSumsWrongFalsely : Prop := finiteSumsRow.holds Try.pinned (OpenSpec.ofChange finiteSumsWrong)

/-- 'eggboxlaw23.FinitePumps': WHATEVER THE INPUT: true; the input reads as it did. -/
def finitePumpsSpec : ChangeSpec := { name := "finitePumps", fn := fun _ => fun
  | [d] => { results := [.lit (.bool true)], args := [d] }
  | _ => none }
def finitePumpsRow : OpenClaim := { program := "ythjkodbinkiifaa", sum := "cdd3846ba8f3f7df822ba9308f35a7b58c6c8ff7382fab2ed1ac6002a5ea70ff", func := "eggbox/eggboxlaw23.FinitePumps", spec := "finitePumps", inPlace := ["internal/bytealg.abigen_runtime_cmpstring", "math/bits.Add64"], apart := false }
def FinitePumpsSaid : Prop := finitePumpsRow.holds Try.pinned (OpenSpec.ofChange finitePumpsSpec)

/-- ITS FALSE NEIGHBOUR: 'it returns false'. Refute it at one input. -/
def finitePumpsWrong : ChangeSpec := { name := "finitePumps", fn := fun _ => fun
  | [d] => { results := [.lit (.bool false)], args := [d] }
  | _ => none }
def FinitePumpsWrongFalsely : Prop := finitePumpsRow.holds Try.pinned (OpenSpec.ofChange finitePumpsWrong)

/-- 'eggboxlaw23.FinitePumping': WHATEVER THE INPUT: true; the input reads as it did. -/
def finitePumpingSpec : ChangeSpec := { name := "finitePumping", fn := fun _ => fun
  | [d1, d2] => { results := [.lit (.bool true)], args := [d1, d2] }
  | _ => none }
def finitePumpingRow : OpenClaim := { program := "ythjkodbinkiifaa", sum := "cdd3846ba8f3f7df822ba9308f35a7b58c6c8ff7382fab2ed1ac6002a5ea70ff", func := "eggbox/eggboxlaw23.FinitePumping", spec := "finitePumping", inPlace := ["math/bits.Add64"], apart := false }
def FinitePumpingSaid : Prop := finitePumpingRow.holds Try.pinned (OpenSpec.ofChange finitePumpingSpec)

/-- ITS FALSE NEIGHBOUR: 'it returns false'. Refute it at one input. -/
def finitePumpingWrong : ChangeSpec := { name := "finitePumping", fn := fun _ => fun
  | [d1, d2] => { results := [.lit (.bool false)], args := [d1, d2] }
  | _ => none }
def FinitePumpingWrongFalsely : Prop := finitePumpingRow.holds Try.pinned (OpenSpec.ofChange finitePumpingWrong)

/-- 'eggboxlaw23.FiniteLists': WHATEVER THE INPUT: true; the input reads as it did. -/
def finiteListsSpec : ChangeSpec := { name := "finiteLists", fn := fun _ => fun
  | [d1, d2, d3] => { results := [.lit (.bool true)], args := [d1, d2, d3] }
  | _ => none }
def finiteListsRow : OpenClaim := { program := "ythjkodbinkiifaa", sum := "cdd3846ba8f3f7df822ba9308f35a7b58c6c8ff7382fab2ed1ac6002a5ea70ff", func := "eggbox/eggboxlaw23.FiniteLists", spec := "finiteLists", inPlace := ["math/bits.Add64"], unfollowed := true, recurses := true, apart := false }
def FiniteListsSaid : Prop := finiteListsRow.holds Try.pinned (OpenSpec.ofChange finiteListsSpec)

/-- ITS FALSE NEIGHBOUR: 'it returns false'. Refute it at one input. -/
def finiteListsWrong : ChangeSpec := { name := "finiteLists", fn := fun _ => fun
  | [d1, d2, d3] => { results := [.lit (.bool false)], args := [d1, d2, d3] }
  | _ => none }
def FiniteListsWrongFalsely : Prop := finiteListsRow.holds Try.pinned (OpenSpec.ofChange finiteListsWrong)

/-- 'eggboxlaw23.FiniteListed': WHATEVER THE INPUT: true; the input reads as it did. -/
def finiteListedSpec : ChangeSpec := { name := "finiteListed", fn := fun _ => fun
  | [d1, d2, d3, d4] => { results := [.lit (.bool true)], args := [d1, d2, d3, d4] }
  | _ => none }
def finiteListedRow : OpenClaim := { program := "ythjkodbinkiifaa", sum := "cdd3846ba8f3f7df822ba9308f35a7b58c6c8ff7382fab2ed1ac6002a5ea70ff", func := "eggbox/eggboxlaw23.FiniteListed", spec := "finiteListed", inPlace := ["math/bits.Add64", "internal/bytealg.abigen_runtime_cmpstring"], unfollowed := true, recurses := true, apart := false }
def FiniteListedSaid : Prop := finiteListedRow.holds Try.pinned (OpenSpec.ofChange finiteListedSpec)

/-- ITS FALSE NEIGHBOUR: 'it returns false'. Refute it at one input. -/
def finiteListedWrong : ChangeSpec := { name := "finiteListed", fn := fun _ => fun
  | [d1, d2, d3, d4] => { results := [.lit (.bool false)], args := [d1, d2, d3, d4] }
  | _ => none }
def FiniteListedWrongFalsely : Prop := finiteListedRow.holds Try.pinned (OpenSpec.ofChange finiteListedWrong)

/-- 'eggboxlaw23.FiniteCounts': WHATEVER THE INPUT: true; the input reads as it did. -/
def finiteCountsSpec : ChangeSpec := { name := "finiteCounts", fn := fun _ => fun
  | [d1, d2] => { results := [.lit (.bool true)], args := [d1, d2] }
  | _ => none }
def finiteCountsRow : OpenClaim := { program := "ythjkodbinkiifaa", sum := "cdd3846ba8f3f7df822ba9308f35a7b58c6c8ff7382fab2ed1ac6002a5ea70ff", func := "eggbox/eggboxlaw23.FiniteCounts", spec := "finiteCounts", inPlace := ["math/bits.Add64", "internal/bytealg.abigen_runtime_cmpstring"], unfollowed := true, recurses := true, apart := false }
def FiniteCountsSaid : Prop := finiteCountsRow.holds Try.pinned (OpenSpec.ofChange finiteCountsSpec)

/-- ITS FALSE NEIGHBOUR: 'it returns false'. Refute it at one input. -/
def finiteCountsWrong : ChangeSpec := { name := "finiteCounts", fn := fun _ => fun
  | [d1, d2] => { results := [.lit (.bool false)], args := [d1, d2] }
  | _ => none }
def FiniteCountsWrongFalsely : Prop := finiteCountsRow.holds Try.pinned (OpenSpec.ofChange finiteCountsWrong)

/-- 'eggboxlaw23.FiniteGrowth': WHATEVER THE INPUT: true; the input reads as it did. -/
def finiteGrowthSpec : ChangeSpec := { name := "finiteGrowth", fn := fun _ => fun
  | [d] => { results := [.lit (.bool true)], args := [d] }
  | _ => none }
def finiteGrowthRow : OpenClaim := { program := "ythjkodbinkiifaa", sum := "cdd3846ba8f3f7df822ba9308f35a7b58c6c8ff7382fab2ed1ac6002a5ea70ff", func := "eggbox/eggboxlaw23.FiniteGrowth", spec := "finiteGrowth", inPlace := ["math/bits.Add64"], unfollowed := true, recurses := true, apart := false }
def FiniteGrowthSaid : Prop := finiteGrowthRow.holds Try.pinned (OpenSpec.ofChange finiteGrowthSpec)

/-- ITS FALSE NEIGHBOUR: 'it returns false'. Refute it at one input. -/
def finiteGrowthWrong : ChangeSpec := { name := "finiteGrowth", fn := fun _ => fun
  | [d] => { results := [.lit (.bool false)], args := [d] }
  | _ => none }
def FiniteGrowthWrongFalsely : Prop := finiteGrowthRow.holds Try.pinned (OpenSpec.ofChange finiteGrowthWrong)

/- THE SECOND FORM. 'bulk': how many values and letters a reading holds, each counted each time it is reached (what is shared counts as often as it is met; a slice's spare places count too). A statement '..UptoSaid' is the law's where the arguments, and the package variables that the reading takes, are together of bulk at most 1048576: NARROWER than '..Said'. Prove '..Said' where nothing that the law and all that it calls make is longer than what came in: it says more and counts as full. Else prove '..UptoSaid'. A law counts once. -/
mutual
def uptoBulk {H : Type} : DataW H → Nat
  | .lit (.string bytes) => bytes.length + 1
  | .lit _ => 1
  | .nil => 1
  | .ptr d => uptoBulk d + 1
  | .slice elems spare => uptoBulkAll elems + uptoBulkAll spare + 1
  | .agg parts => uptoBulkAll parts + 1
  | .iface _ d => uptoBulk d + 1
  | .map entries => uptoBulkEntries entries + 1
  | .held _ => 1
def uptoBulkAll {H : Type} : List (DataW H) → Nat
  | [] => 0
  | d :: r => uptoBulk d + uptoBulkAll r
def uptoBulkEntries {H : Type} : List (Lit × DataW H) → Nat
  | [] => 0
  | x :: r => uptoBulkEntry x + uptoBulkEntries r
def uptoBulkEntry {H : Type} : Lit × DataW H → Nat
  | (.string bytes, d) => bytes.length + uptoBulk d + 1
  | (_, d) => uptoBulk d + 1
 end
def uptoSmall : (H : Type) → List (DataW H) → Bool := fun _ ds => decide (uptoBulkAll ds ≤ 1048576)
def OpenSpec.upto (s : _root_.Go.ChangeSpec) : _root_.Go.OpenSpec := { _root_.Go.OpenSpec.ofChange s with cond := some uptoSmall }

/-- 'eggboxlaw23.FiniteBetween', WHERE WHAT IT READS IS OF BULK AT MOST 1048576: true; the input reads as it did. -/
def finiteBetweenUptoRow : OpenClaim := { program := "ythjkodbinkiifaa", sum := "cdd3846ba8f3f7df822ba9308f35a7b58c6c8ff7382fab2ed1ac6002a5ea70ff", func := "eggbox/eggboxlaw23.FiniteBetween", spec := "finiteBetween", inPlace := ["math/bits.Add64"], apart := false, narrowed := true }
def FiniteBetweenUptoSaid : Prop := finiteBetweenUptoRow.holds Try.pinned (OpenSpec.upto finiteBetweenSpec)

/-- 'eggboxlaw23.FiniteSums', WHERE WHAT IT READS IS OF BULK AT MOST 1048576: true; the input reads as it did. -/
def finiteSumsUptoRow : OpenClaim := { program := "ythjkodbinkiifaa", sum := "cdd3846ba8f3f7df822ba9308f35a7b58c6c8ff7382fab2ed1ac6002a5ea70ff", func := "eggbox/eggboxlaw23.FiniteSums", spec := "finiteSums", inPlace := ["math/bits.Add64"], apart := false, narrowed := true }
def FiniteSumsUptoSaid : Prop := finiteSumsUptoRow.holds Try.pinned (OpenSpec.upto finiteSumsSpec)

/-- 'eggboxlaw23.FinitePumps', WHERE WHAT IT READS IS OF BULK AT MOST 1048576: true; the input reads as it did. -/
def finitePumpsUptoRow : OpenClaim := { program := "ythjkodbinkiifaa", sum := "cdd3846ba8f3f7df822ba9308f35a7b58c6c8ff7382fab2ed1ac6002a5ea70ff", func := "eggbox/eggboxlaw23.FinitePumps", spec := "finitePumps", inPlace := ["internal/bytealg.abigen_runtime_cmpstring", "math/bits.Add64"], apart := false, narrowed := true }
def FinitePumpsUptoSaid : Prop := finitePumpsUptoRow.holds Try.pinned (OpenSpec.upto finitePumpsSpec)

/-- 'eggboxlaw23.FinitePumping', WHERE WHAT IT READS IS OF BULK AT MOST 1048576: true; the input reads as it did. -/
def finitePumpingUptoRow : OpenClaim := { program := "ythjkodbinkiifaa", sum := "cdd3846ba8f3f7df822ba9308f35a7b58c6c8ff7382fab2ed1ac6002a5ea70ff", func := "eggbox/eggboxlaw23.FinitePumping", spec := "finitePumping", inPlace := ["math/bits.Add64"], apart := false, narrowed := true }
def FinitePumpingUptoSaid : Prop := finitePumpingUptoRow.holds Try.pinned (OpenSpec.upto finitePumpingSpec)

/-- 'eggboxlaw23.FiniteLists', WHERE WHAT IT READS IS OF BULK AT MOST 1048576: true; the input reads as it did. -/
def finiteListsUptoRow : OpenClaim := { program := "ythjkodbinkiifaa", sum := "cdd3846ba8f3f7df822ba9308f35a7b58c6c8ff7382fab2ed1ac6002a5ea70ff", func := "eggbox/eggboxlaw23.FiniteLists", spec := "finiteLists", inPlace := ["math/bits.Add64"], unfollowed := true, recurses := true, apart := false, narrowed := true }
def FiniteListsUptoSaid : Prop := finiteListsUptoRow.holds Try.pinned (OpenSpec.upto finiteListsSpec)

/-- 'eggboxlaw23.FiniteListed', WHERE WHAT IT READS IS OF BULK AT MOST 1048576: true; the input reads as it did. -/
def finiteListedUptoRow : OpenClaim := { program := "ythjkodbinkiifaa", sum := "cdd3846ba8f3f7df822ba9308f35a7b58c6c8ff7382fab2ed1ac6002a5ea70ff", func := "eggbox/eggboxlaw23.FiniteListed", spec := "finiteListed", inPlace := ["math/bits.Add64", "internal/bytealg.abigen_runtime_cmpstring"], unfollowed := true, recurses := true, apart := false, narrowed := true }
def FiniteListedUptoSaid : Prop := finiteListedUptoRow.holds Try.pinned (OpenSpec.upto finiteListedSpec)

/-- 'eggboxlaw23.FiniteCounts', WHERE WHAT IT READS IS OF BULK AT MOST 1048576: true; the input reads as it did. -/
def finiteCountsUptoRow : OpenClaim := { program := "ythjkodbinkiifaa", sum := "cdd3846ba8f3f7df822ba9308f35a7b58c6c8ff7382fab2ed1ac6002a5ea70ff", func := "eggbox/eggboxlaw23.FiniteCounts", spec := "finiteCounts", inPlace := ["math/bits.Add64", "internal/bytealg.abigen_runtime_cmpstring"], unfollowed := true, recurses := true, apart := false, narrowed := true }
def FiniteCountsUptoSaid : Prop := finiteCountsUptoRow.holds Try.pinned (OpenSpec.upto finiteCountsSpec)

/-- 'eggboxlaw23.FiniteGrowth', WHERE WHAT IT READS IS OF BULK AT MOST 1048576: true; the input reads as it did. -/
def finiteGrowthUptoRow : OpenClaim := { program := "ythjkodbinkiifaa", sum := "cdd3846ba8f3f7df822ba9308f35a7b58c6c8ff7382fab2ed1ac6002a5ea70ff", func := "eggbox/eggboxlaw23.FiniteGrowth", spec := "finiteGrowth", inPlace := ["math/bits.Add64"], unfollowed := true, recurses := true, apart := false, narrowed := true }
def FiniteGrowthUptoSaid : Prop := finiteGrowthUptoRow.holds Try.pinned (OpenSpec.upto finiteGrowthSpec)

end Rows
end Go.Proofs.Ythjkodbinkiifaa
