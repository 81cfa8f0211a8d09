/- GraphOrder: at any input the Go function returns true, and its arguments read as they did. No condition beyond those of the given row. -/
import Derived.Test.YtkemihfaohkoeaaPart12
import Derived.Test.YtkemihfaohkoeaaRows
namespace Go.Proofs.Ytkemihfaohkoeaa
open Go Go.Proofs.Ytkemihfaohkoeaa.Am Go.ChangeShapes Go.WideShapes Go.ChangeAt Go.RowKit Go.ChangeMaps
theorem graphOrder_own : ownKnob Try.prog.godebug = none := by kernel_rfl
theorem graphOrder_laidOut : laidOutB Try.prog = true := by kernel_rfl
set_option maxRecDepth 100000 in
theorem graphOrder_lifted (os : Os) (started : os.Started) (H : Type) (enc : TypeId × Value → H) :
    ReturnsInHanded {} Try.checked os 7 .any (Rows.graphOrderSpec.pre6 enc Try.prog Try.f7 Rows.graphOrderRow.domain false) (Rows.graphOrderSpec.post enc Try.prog Try.f7 false true false false) := by
  refine returnsInHanded_of_change_sized (C := Try.checked) graphOrder_own started (by kernel_rfl) Try.func7
    (ChangeSpec.witness6 (enc := enc) (C := Try.checked) false ⟨#[], #[.slice none 0 0, .int .i64 0, .int .i64 0], []⟩ 8 (by kernel_rfl) (by kernel_rfl) (by kernel_rfl) (by kernel_rfl)) ?_
  intro W base args ds gs before hval0 hW hcnd hwt _
  have hval : ∀ (j : Nat) t v, Try.f7.params[j]? = some t → args[j]? = some v → Value.okWide Try.prog W .any base t v := hval0
  have hW' := hW
  obtain ⟨p, q, hA0, hV, rfl, hfz, hnd⟩ := hW
  have hA : DataW.TrodAll enc Try.prog W 0 (fun _ => true) true Try.f7.params.toList args.toList ds p := hA0
  rw [Try.params7] at hA hval
  obtain ⟨v0, vs0, d0, ds0, p0, q0, hargs, rfl, rfl, h0, r0⟩ := trodAll_cons hA
  obtain ⟨v1, vs1, d1, ds1, p1, q1, rfl, rfl, rfl, h1, r1⟩ := trodAll_cons r0
  obtain ⟨v2, vs2, d2, ds2, p2, q2, rfl, rfl, rfl, h2, r2⟩ := trodAll_cons r1
  obtain ⟨rfl, rfl, rfl⟩ := trodAll_nil r2
  obtain rfl : args = #[v0, v1, v2] := by cases args; simp_all
  obtain ⟨rfl, rfl⟩ := trodVars_none hV
  obtain ⟨a1, rfl, rfl, rfl, w1⟩ := open_int Try.underlying3 (hval 1 3 v1 rfl rfl) h1
  obtain ⟨a2, rfl, rfl, rfl, w2⟩ := open_int Try.underlying3 (hval 2 3 v2 rfl rfl) h2
  obtain ⟨G0, av0, H0, μ0, st0, sub0, rel0, stay0, gr0, sz0⟩ := ArgSt.grid (ArgSt.empty Try.prog W) Try.underlying22 (by kernel_rfl) (by kernel_rfl) (by kernel_rfl) (by kernel_rfl) (hval 0 22 v0 rfl rfl) h0
  have hm0 : ∀ n ∈ DataW.weights Try.prog 22 d0, n ≤ reachBytes := fun n hn => by simpa using List.all_eq_true.1 hwt _ (DataW.weights_mem_each (j := 0) (t := 22) rfl rfl n hn)
  have hz0 := sz0 reachBytes hm0
  have hr0 : reachBytes = 140737488351232 := by decide
  have short0 : Am11.Short8 G0 := ⟨by have h1 := hz0.1; rw [show Try.prog.bytesOf 34 = 24 by kernel_rfl] at h1; omega, fun l hl => by have h1 := hz0.2 l hl; rw [show Try.prog.bytesOf 3 = 8 by kernel_rfl] at h1; omega⟩
  have hl := Am11.law7 (G := G0) (x0 := av0) a1 a2 short0 0 H0 gr0
  refine (callInf_sound Am11.codeOK Am11.extOK (w0 := W) hl st0.sim (LRel.cons rel0 (LRel.cons (.base _ rfl) (LRel.cons (.base _ rfl) (LRel.nil _))))).mono fun e W' hh => ?_
  obtain ⟨v', μ', rfl, _, hv, hS⟩ := hh
  obtain rfl := VRel.bool_inv hv
  exact ⟨_, rfl, post_true (tb := 4) graphOrder_laidOut (by kernel_rfl) rfl (by kernel_rfl) rfl rfl rfl rfl hW' hS.below⟩

theorem graphOrder_holds : Rows.GraphOrderSaid :=
  OpenClaim.holds_of_wide 7 Try.f7 rfl rfl rfl rfl rfl rfl rfl ⟨rfl, rfl, rfl, rfl, rfl⟩ rfl rfl rfl rfl rfl (by kernel_rfl) Try.func7 (by kernel_rfl)
    (of_decide_eq_true (by kernel_rfl)) (by unfold Func.isWrapper; first | (rw [if_pos (by decide +kernel)]; kernel_rfl) | (rw [if_neg (by decide +kernel)]; exact ⟨rfl, rfl⟩))
    (fun os started H enc _ => graphOrder_lifted os started H enc)
end Go.Proofs.Ytkemihfaohkoeaa
