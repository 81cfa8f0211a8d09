/- FiniteCounts: at any input the Go function returns true, and its arguments read as they did. No condition beyond those of the given row. -/
import Derived.Test.YthjkodbinkiifaaPart15
import Derived.Test.YthjkodbinkiifaaRows
namespace Go.Proofs.Ythjkodbinkiifaa
open Go Go.Proofs.Ythjkodbinkiifaa.Am Go.ChangeShapes Go.WideShapes Go.ChangeAt Go.RowKit Go.ChangeMaps
theorem finiteCounts_own : ownKnob Try.prog.godebug = none := by kernel_rfl
theorem finiteCounts_laidOut : laidOutB Try.prog = true := by kernel_rfl
set_option maxRecDepth 100000 in
theorem finiteCounts_lifted (os : Os) (started : os.Started) (H : Type) (enc : TypeId × Value → H) :
  ReturnsInHanded {} Try.checked os 9 .any (Rows.finiteCountsSpec.pre6 enc Try.prog Try.f9 Rows.finiteCountsRow.domain false) (Rows.finiteCountsSpec.post enc Try.prog Try.f9 false true false false) := by
 refine returnsInHanded_of_change_sized (C := Try.checked) finiteCounts_own started (by kernel_rfl) Try.func9
  (ChangeSpec.witness6 (enc := enc) (C := Try.checked) false ⟨#[], #[.agg #[.int .i64 0, .slice none 0 0, .slice none 0 0], .int .i64 0], []⟩ 8 (by kernel_rfl) (by kernel_rfl) (by kernel_rfl) (by kernel_rfl)) ?_
 intro W base args ds gs before hval0 hW hcnd hwt _
 have hval : ∀ (j : Nat) t v, Try.f9.params[j]? = some t → args[j]? = some v → Value.okWide Try.prog W .any base t v := hval0
 have hW' := hW
 obtain ⟨p, q, hA0, hV, rfl, hfz, hnd⟩ := hW
 have hA : DataW.TrodAll enc Try.prog W 0 (fun _ => true) true Try.f9.params.toList args.toList ds p := hA0
 rw [Try.params9] at hA hval
 obtain ⟨v0, vs0, d0, ds0, p0, q0, hargs, rfl, rfl, h0, r0⟩ := trodAll_cons hA
 obtain ⟨v1, vs1, d1, ds1, p1, q1, rfl, rfl, rfl, h1, r1⟩ := trodAll_cons r0
 obtain ⟨rfl, rfl, rfl⟩ := trodAll_nil r1
 obtain rfl : args = #[v0, v1] := by cases args; simp_all
 obtain ⟨rfl, rfl⟩ := trodVars_none hV
 obtain ⟨a1, rfl, rfl, rfl, w1⟩ := open_int Try.underlying3 (hval 1 3 v1 rfl rfl) h1
 obtain ⟨k0, xs0, bs0, vN0, vA0, H0, μ0, st0, sub0, rel0, rN0, rA0, stay0, sz0⟩ := ArgSt.autoS (ArgSt.empty Try.prog W (GL.none (by kernel_rfl))) Try.underlying25 (by kernel_rfl) (by kernel_rfl) (by kernel_rfl) (by kernel_rfl) (by kernel_rfl) (by kernel_rfl) (by kernel_rfl) (by kernel_rfl) (by kernel_rfl) (by kernel_rfl) (hval 0 25 v0 rfl rfl) h0
 have hm0 : ∀ n ∈ DataW.weights Try.prog 25 d0, n ≤ reachBytes := fun n hn => by simpa using List.all_eq_true.1 hwt _ (DataW.weights_mem_each (j := 0) (t := 25) rfl rfl n hn)
 have hz0 := sz0 reachBytes hm0
 have hr0 : reachBytes = 140737488351232 := by decide
 have bn0 : xs0.length * 8 + 16 ≤ 140737488355328 := by
  have h1 := hz0.1
  rw [show Try.prog.bytesOf 3 = 8 by kernel_rfl] at h1
  omega
 have ba0 : bs0.length ≤ 140737488355328 := by
  have h1 := hz0.2
  rw [show Try.prog.bytesOf 4 = 1 by kernel_rfl] at h1
  omega
 have hl := Am23.law9 (k := k0) a1 0 H0 ⟨rN0, rA0⟩ bn0 ba0 
 refine (callInf_sound Am23.codeOK Am23.extOK (w0 := W) hl st0.sim (LRel.cons rel0 (LRel.cons (.base _ rfl) (LRel.nil _)))).mono fun e W' hh => ?_
 obtain ⟨v', μ', rfl, _, hv, hS⟩ := hh
 obtain rfl := VRel.bool_inv hv
 exact ⟨_, rfl, post_true (tb := 4) finiteCounts_laidOut (by kernel_rfl) rfl (by kernel_rfl) rfl rfl rfl rfl hW' hS.below⟩

theorem finiteCounts_holds : Rows.FiniteCountsSaid :=
 OpenClaim.holds_of_wide 9 Try.f9 rfl rfl rfl rfl rfl rfl rfl ⟨rfl, rfl, rfl, rfl, rfl⟩ rfl rfl rfl rfl rfl (by kernel_rfl) Try.func9 (by kernel_rfl)
  (of_decide_eq_true (by kernel_rfl)) (by unfold Func.isWrapper; first | (rw [if_pos (by decide +kernel)]; kernel_rfl) | (rw [if_neg (by decide +kernel)]; exact ⟨rfl, rfl⟩))
  (fun os started H enc _ => finiteCounts_lifted os started H enc)
end Go.Proofs.Ythjkodbinkiifaa
