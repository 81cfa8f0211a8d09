/- FiniteGrowth: at any input the Go function returns true, and its arguments read as they did. No condition beyond those of the given row. -/
import Derived.Test.YthjkodbinkiifaaPart14
import Derived.Test.YthjkodbinkiifaaRows
namespace Go.Proofs.Ythjkodbinkiifaa
open Go Go.Proofs.Ythjkodbinkiifaa.Am Go.ChangeShapes Go.WideShapes Go.ChangeAt Go.RowKit Go.ChangeMaps
theorem finiteGrowth_own : ownKnob Try.prog.godebug = none := by kernel_rfl
theorem finiteGrowth_laidOut : laidOutB Try.prog = true := by kernel_rfl
set_option maxRecDepth 100000 in
theorem finiteGrowth_lifted (os : Os) (started : os.Started) (H : Type) (enc : TypeId × Value → H) :
  ReturnsInHanded {} Try.checked os 10 .any (Rows.finiteGrowthSpec.pre6 enc Try.prog Try.f10 Rows.finiteGrowthRow.domain false) (Rows.finiteGrowthSpec.post enc Try.prog Try.f10 false true false false) := by
 refine returnsInHanded_of_change_sized (C := Try.checked) finiteGrowth_own started (by kernel_rfl) Try.func10
  (ChangeSpec.witness6 (enc := enc) (C := Try.checked) false ⟨#[], #[.agg #[.int .i64 0, .slice none 0 0, .slice none 0 0]], []⟩ 8 (by kernel_rfl) (by kernel_rfl) (by kernel_rfl) (by kernel_rfl)) ?_
 intro W base args ds gs before hval0 hW hcnd hwt _
 have hval : ∀ (j : Nat) t v, Try.f10.params[j]? = some t → args[j]? = some v → Value.okWide Try.prog W .any base t v := hval0
 have hW' := hW
 obtain ⟨p, q, hA0, hV, rfl, hfz, hnd⟩ := hW
 have hA : DataW.TrodAll enc Try.prog W 0 (fun _ => true) true Try.f10.params.toList args.toList ds p := hA0
 rw [Try.params10] at hA hval
 obtain ⟨v0, vs0, d0, ds0, p0, q0, hargs, rfl, rfl, h0, r0⟩ := trodAll_cons hA
 obtain ⟨rfl, rfl, rfl⟩ := trodAll_nil r0
 obtain rfl : args = #[v0] := by cases args; simp_all
 obtain ⟨rfl, rfl⟩ := trodVars_none hV
 obtain ⟨k0, xs0, bs0, vN0, vA0, H0, μ0, st0, sub0, rel0, rN0, rA0, stay0⟩ := ArgSt.auto (ArgSt.empty Try.prog W (GL.none (by kernel_rfl))) Try.underlying25 (by kernel_rfl) (by kernel_rfl) (by kernel_rfl) (by kernel_rfl) (by kernel_rfl) (by kernel_rfl) (by kernel_rfl) (by kernel_rfl) (by kernel_rfl) (by kernel_rfl) (hval 0 25 v0 rfl rfl) h0
 have hl := Am23.law10 (k := k0)  0 H0 ⟨rN0, rA0⟩  
 refine (callInf_sound Am23.codeOK Am23.extOK (w0 := W) hl st0.sim (LRel.cons rel0 (LRel.nil _))).mono fun e W' hh => ?_
 obtain ⟨v', μ', rfl, _, hv, hS⟩ := hh
 obtain rfl := VRel.bool_inv hv
 exact ⟨_, rfl, post_true (tb := 4) finiteGrowth_laidOut (by kernel_rfl) rfl (by kernel_rfl) rfl rfl rfl rfl hW' hS.below⟩

theorem finiteGrowth_holds : Rows.FiniteGrowthSaid :=
 OpenClaim.holds_of_wide 10 Try.f10 rfl rfl rfl rfl rfl rfl rfl ⟨rfl, rfl, rfl, rfl, rfl⟩ rfl rfl rfl rfl rfl (by kernel_rfl) Try.func10 (by kernel_rfl)
  (of_decide_eq_true (by kernel_rfl)) (by unfold Func.isWrapper; first | (rw [if_pos (by decide +kernel)]; kernel_rfl) | (rw [if_neg (by decide +kernel)]; exact ⟨rfl, rfl⟩))
  (fun os started H enc _ => finiteGrowth_lifted os started H enc)
end Go.Proofs.Ythjkodbinkiifaa
