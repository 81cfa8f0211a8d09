/- GraphParts: at any input the Go function returns true, and its arguments read as they did. No condition beyond those of the given row. -/
import Derived.Test.YtkemihfaohkoeaaPart13
import Derived.Test.YtkemihfaohkoeaaRows
namespace Go.Proofs.Ytkemihfaohkoeaa
open Go Go.Proofs.Ytkemihfaohkoeaa.Am Go.ChangeShapes Go.WideShapes Go.ChangeAt Go.RowKit Go.ChangeMaps
theorem graphParts_own : ownKnob Try.prog.godebug = none := by kernel_rfl
theorem graphParts_laidOut : laidOutB Try.prog = true := by kernel_rfl
set_option maxRecDepth 100000 in
theorem graphParts_lifted (os : Os) (started : os.Started) (H : Type) (enc : TypeId × Value → H) :
    ReturnsInHanded {} Try.checked os 6 .any (Rows.graphPartsSpec.pre6 enc Try.prog Try.f6 Rows.graphPartsRow.domain false) (Rows.graphPartsSpec.post enc Try.prog Try.f6 false true false false) := by
  refine returnsInHanded_of_change_sized (C := Try.checked) graphParts_own started (by kernel_rfl) Try.func6
    (ChangeSpec.witness6 (enc := enc) (C := Try.checked) false ⟨#[], #[.slice none 0 0], []⟩ 8 (by kernel_rfl) (by kernel_rfl) (by kernel_rfl) (by kernel_rfl)) ?_
  intro W base args ds gs before hval0 hW hcnd hwt _
  have hval : ∀ (j : Nat) t v, Try.f6.params[j]? = some t → args[j]? = some v → Value.okWide Try.prog W .any base t v := hval0
  have hW' := hW
  obtain ⟨p, q, hA0, hV, rfl, hfz, hnd⟩ := hW
  have hA : DataW.TrodAll enc Try.prog W 0 (fun _ => true) true Try.f6.params.toList args.toList ds p := hA0
  rw [Try.params6] at hA hval
  obtain ⟨v0, vs0, d0, ds0, p0, q0, hargs, rfl, rfl, h0, r0⟩ := trodAll_cons hA
  obtain ⟨rfl, rfl, rfl⟩ := trodAll_nil r0
  obtain rfl : args = #[v0] := by cases args; simp_all
  obtain ⟨rfl, rfl⟩ := trodVars_none hV
  obtain ⟨G0, av0, H0, μ0, st0, sub0, rel0, stay0, gr0, sz0⟩ := ArgSt.grid (ArgSt.empty Try.prog W) Try.underlying22 (by kernel_rfl) (by kernel_rfl) (by kernel_rfl) (by kernel_rfl) (hval 0 22 v0 rfl rfl) h0
  have hm0 : ∀ n ∈ DataW.weights Try.prog 22 d0, n ≤ reachBytes := fun n hn => by simpa using List.all_eq_true.1 hwt _ (DataW.weights_mem_each (j := 0) (t := 22) rfl rfl n hn)
  have hz0 := sz0 reachBytes hm0
  have hr0 : reachBytes = 140737488351232 := by decide
  have short0 : Am11.Short8 G0 := ⟨by have h1 := hz0.1; rw [show Try.prog.bytesOf 34 = 24 by kernel_rfl] at h1; omega, fun l hl => by have h1 := hz0.2 l hl; rw [show Try.prog.bytesOf 3 = 8 by kernel_rfl] at h1; omega⟩
  have hl := Am11.law6 (G := G0) (x0 := av0)  short0 0 H0 gr0
  refine (callInf_sound Am11.codeOK Am11.extOK (w0 := W) hl st0.sim (LRel.cons rel0 (LRel.nil _))).mono fun e W' hh => ?_
  obtain ⟨v', μ', rfl, _, hv, hS⟩ := hh
  obtain rfl := VRel.bool_inv hv
  exact ⟨_, rfl, post_true (tb := 4) graphParts_laidOut (by kernel_rfl) rfl (by kernel_rfl) rfl rfl rfl rfl hW' hS.below⟩

theorem graphParts_holds : Rows.GraphPartsSaid :=
  OpenClaim.holds_of_wide 6 Try.f6 rfl rfl rfl rfl rfl rfl rfl ⟨rfl, rfl, rfl, rfl, rfl⟩ rfl rfl rfl rfl rfl (by kernel_rfl) Try.func6 (by kernel_rfl)
    (of_decide_eq_true (by kernel_rfl)) (by unfold Func.isWrapper; first | (rw [if_pos (by decide +kernel)]; kernel_rfl) | (rw [if_neg (by decide +kernel)]; exact ⟨rfl, rfl⟩))
    (fun os started H enc _ => graphParts_lifted os started H enc)
end Go.Proofs.Ytkemihfaohkoeaa
