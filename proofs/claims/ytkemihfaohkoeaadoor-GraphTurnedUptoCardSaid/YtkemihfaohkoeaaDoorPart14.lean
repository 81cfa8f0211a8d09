/- A part of the proof of a given statement: AmLaid. No condition. -/
import Derived.Test.YtkemihfaohkoeaaDoorPart13
import Derived.Lib.LaidTab
namespace Go.Proofs.YtkemihfaohkoeaaDoor.Am
open Go Go.RowKit
/-- What the row's list gives: the table of math/bits is there. -/
theorem GL.tab {P : Program} {W : World} {g0 : Nat} (hg : P.globalNamed "math/bits.deBruijn64tab" = some g0) (h : Lib.TabIs P W "math/bits.deBruijn64tab" .u8 (dBtab.map fun (n : Nat) => (n : Int))) : GL P W := fun g cs hk i v hv => by
  unfold known at hk
  split at hk
  · rename_i x hx
    split at hk
    · rename_i hn
      cases hk
      have hgg : g = g0 := by
        have hlt : g < P.globals.size := (Array.getElem?_eq_some_iff.1 hx).1
        have hm : g ∈ (List.range P.globals.size).filter fun g => (P.globals[g]?).any (·.name == "math/bits.deBruijn64tab") := by
          rw [List.mem_filter]
          refine ⟨List.mem_range.2 hlt, ?_⟩
          rw [hx]
          simp [hn]
        unfold Program.globalNamed at hg
        split at hg
        · rename_i g' he
          cases hg
          rw [he] at hm
          simpa using hm
        · cases hg
      subst hgg
      rw [List.getElem?_map] at hv
      cases hd : dBtab[i]? with
      | none => rw [hd] at hv; cases hv
      | some n =>
        rw [hd] at hv
        cases hv
        have hi := (List.getElem?_eq_some_iff.1 hd).1
        have := h.cell hg i (by rw [List.length_map]; exact hi)
        refine ⟨?_, rfl⟩
        rw [this, List.getD_eq_getElem?_getD, List.getElem?_map, hd]
        rfl
    · cases hk
  · cases hk
end Go.Proofs.YtkemihfaohkoeaaDoor.Am
