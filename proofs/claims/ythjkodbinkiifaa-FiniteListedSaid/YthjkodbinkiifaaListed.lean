/- FiniteListed: at any input the Go function returns true, and its arguments read as they did. No condition beyond those of the given row. -/
import Derived.Test.YthjkodbinkiifaaPart14
import Derived.Test.YthjkodbinkiifaaRows
namespace Go.Proofs.Ythjkodbinkiifaa
open Go Go.Proofs.Ythjkodbinkiifaa.Am Go.ChangeShapes Go.WideShapes Go.ChangeAt Go.RowKit Go.ChangeMaps
theorem finiteListed_own : ownKnob Try.prog.godebug = none := by kernel_rfl
theorem finiteListed_laidOut : laidOutB Try.prog = true := by kernel_rfl
set_option maxRecDepth 100000 in
theorem finiteListed_lifted (os : Os) (started : os.Started) (H : Type) (enc : TypeId × Value → H) :
    ReturnsInHanded {} Try.checked os 8 .any (Rows.finiteListedSpec.pre6 enc Try.prog Try.f8 Rows.finiteListedRow.domain false) (Rows.finiteListedSpec.post enc Try.prog Try.f8 false true false false) := by
  refine returnsInHanded_of_change_sized (C := Try.checked) finiteListed_own started (by kernel_rfl) Try.func8
    (ChangeSpec.witness6 (enc := enc) (C := Try.checked) false ⟨#[], #[.agg #[.int .i64 0, .slice none 0 0, .slice none 0 0], .string ⟨#[]⟩, .int .i64 0, .string ⟨#[]⟩], []⟩ 8 (by kernel_rfl) (by kernel_rfl) (by kernel_rfl) (by kernel_rfl)) ?_
  intro W base args ds gs before hval0 hW hcnd hwt _
  have hval : ∀ (j : Nat) t v, Try.f8.params[j]? = some t → args[j]? = some v → Value.okWide Try.prog W .any base t v := hval0
  have hW' := hW
  obtain ⟨p, q, hA0, hV, rfl, hfz, hnd⟩ := hW
  have hA : DataW.TrodAll enc Try.prog W 0 (fun _ => true) true Try.f8.params.toList args.toList ds p := hA0
  rw [Try.params8] at hA hval
  obtain ⟨v0, vs0, d0, ds0, p0, q0, hargs, rfl, rfl, h0, r0⟩ := trodAll_cons hA
  obtain ⟨v1, vs1, d1, ds1, p1, q1, rfl, rfl, rfl, h1, r1⟩ := trodAll_cons r0
  obtain ⟨v2, vs2, d2, ds2, p2, q2, rfl, rfl, rfl, h2, r2⟩ := trodAll_cons r1
  obtain ⟨v3, vs3, d3, ds3, p3, q3, rfl, rfl, rfl, h3, r3⟩ := trodAll_cons r2
  obtain ⟨rfl, rfl, rfl⟩ := trodAll_nil r3
  obtain rfl : args = #[v0, v1, v2, v3] := by cases args; simp_all
  obtain ⟨rfl, rfl⟩ := trodVars_none hV
  obtain ⟨a1, rfl, rfl, rfl, w1⟩ := open_string Try.underlying9 (hval 1 9 v1 rfl rfl) h1
  have b1 : a1.size < 140737488355328 := by
    have h1 : a1.data.toList.length ≤ reachBytes := sized_string hwt (j := 1) (t := 9) rfl rfl
    have h2 := reachBytes_lt
    have e : a1.data.toList.length = a1.size := rfl
    omega
  obtain ⟨a2, rfl, rfl, rfl, w2⟩ := open_int Try.underlying3 (hval 2 3 v2 rfl rfl) h2
  obtain ⟨a3, rfl, rfl, rfl, w3⟩ := open_string Try.underlying9 (hval 3 9 v3 rfl rfl) h3
  have b3 : a3.size < 140737488355328 := by
    have h1 : a3.data.toList.length ≤ reachBytes := sized_string hwt (j := 3) (t := 9) rfl rfl
    have h2 := reachBytes_lt
    have e : a3.data.toList.length = a3.size := rfl
    omega
  obtain ⟨k0, xs0, bs0, vN0, vA0, H0, μ0, st0, sub0, rel0, rN0, rA0, stay0⟩ := ArgSt.auto (ArgSt.empty Try.prog W) Try.underlying25 (by kernel_rfl) (by kernel_rfl) (by kernel_rfl) (by kernel_rfl) (by kernel_rfl) (by kernel_rfl) (by kernel_rfl) (by kernel_rfl) (by kernel_rfl) (by kernel_rfl) (hval 0 25 v0 rfl rfl) h0
  have hl := Am23.law8r (k := k0) a1 a2 a3 0 H0 ⟨rN0, rA0⟩  (by omega) (by omega)
  refine (callInf_sound Am23.codeOK Am23.extOK (w0 := W) hl st0.sim (LRel.cons rel0 (LRel.cons (.base _ rfl) (LRel.cons (.base _ rfl) (LRel.cons (.base _ rfl) (LRel.nil _)))))).mono fun e W' hh => ?_
  obtain ⟨v', μ', rfl, _, hv, hS⟩ := hh
  obtain rfl := VRel.bool_inv hv
  exact ⟨_, rfl, post_true (tb := 4) finiteListed_laidOut (by kernel_rfl) rfl (by kernel_rfl) rfl rfl rfl rfl hW' hS.below⟩

theorem finiteListed_holds : Rows.FiniteListedSaid :=
  OpenClaim.holds_of_wide 8 Try.f8 rfl rfl rfl rfl rfl rfl rfl ⟨rfl, rfl, rfl, rfl, rfl⟩ rfl rfl rfl rfl rfl (by kernel_rfl) Try.func8 (by kernel_rfl)
    (of_decide_eq_true (by kernel_rfl)) (by unfold Func.isWrapper; first | (rw [if_pos (by decide +kernel)]; kernel_rfl) | (rw [if_neg (by decide +kernel)]; exact ⟨rfl, rfl⟩))
    (fun os started H enc _ => finiteListed_lifted os started H enc)
end Go.Proofs.Ythjkodbinkiifaa
