/- GraphWays: where what comes in is of bulk at most 1048576 the Go function returns true, and its arguments read as they did. No condition beyond those of the given row of the second form. -/
import Derived.Test.YtkemihfaohkoeaaPart13
import Derived.Test.YtkemihfaohkoeaaRows
import Derived.Deep.CondSized
namespace Go.Proofs.Ytkemihfaohkoeaa
open Go Go.Proofs.Ytkemihfaohkoeaa.Am Go.ChangeShapes Go.WideShapes Go.ChangeAt Go.RowKit Go.ChangeMaps
theorem graphWays_own : ownKnob Try.prog.godebug = none := by kernel_rfl
theorem graphWays_laidOut : laidOutB Try.prog = true := by kernel_rfl
theorem graphWays_lits {H : Type} (k : IntKind) : ∀ zs : List Int, Rows.uptoBulkAll (Go.ChangeShapes.lits (H := H) k zs) = zs.length
  | [] => rfl
  | z :: zs => by
    have ih := graphWays_lits (H := H) k zs
    simp only [Go.ChangeShapes.lits, List.map_cons, Rows.uptoBulkAll, Rows.uptoBulk, List.length_cons] at ih ⊢
    omega
theorem graphWays_row {H : Type} (a : Option Addr) (L : Nat) (Z : List Int) (h : a = none → L = 0) : (Z.take L).length + 1 ≤ Rows.uptoBulk (Go.Deep.intRow (H := H) .i64 a L Z) := by
  cases a with
  | none => rw [h rfl]; simp [Go.Deep.intRow, Rows.uptoBulk]
  | some x =>
    simp only [Go.Deep.intRow, Rows.uptoBulk, graphWays_lits]
    omega
theorem graphWays_rows {H : Type} (Ar : Nat → Option Addr) (L : Nat → Nat) (Z : Nat → List Int) : ∀ l : List Nat, (∀ r ∈ l, Ar r = none → L r = 0) →
    ((l.map fun r => (Z r).take (L r)).map List.length).sum ≤ Rows.uptoBulkAll (l.map fun r => Go.Deep.intRow (H := H) .i64 (Ar r) (L r) (Z r))
  | [], _ => by simp [Rows.uptoBulkAll]
  | r :: l, h => by
    have ih := graphWays_rows (H := H) Ar L Z l (fun s hs => h s (List.mem_cons_of_mem _ hs))
    have h1 := graphWays_row (H := H) (Ar r) (L r) (Z r) (h r (by simp))
    simp only [List.map_cons, List.sum_cons, Rows.uptoBulkAll]
    omega
set_option maxRecDepth 100000 in
theorem graphWays_lifted (os : Os) (started : os.Started) (H : Type) (enc : TypeId × Value → H) (F : Stop.Interp) :
    ReturnsInHanded {} Try.checked os 5 .any ((Rows.OpenSpec.upto Rows.graphWaysSpec).pre6 enc Try.prog Try.f5 Rows.graphWaysUptoRow.domain false) (((Rows.OpenSpec.upto Rows.graphWaysSpec).at F).post enc Try.prog Try.f5 false true false false) := by
  refine returnsInHanded_of_cond_sized (C := Try.checked) (s := (Rows.OpenSpec.upto Rows.graphWaysSpec)) (k := Rows.uptoSmall) rfl graphWays_own started (by kernel_rfl) Try.func5
    (OpenSpec.witness (enc := enc) (C := Try.checked) (s := (Rows.OpenSpec.upto Rows.graphWaysSpec)) (k := Rows.uptoSmall) rfl false ⟨#[], #[.slice none 0 0, .int .i64 0, .int .i64 0], []⟩ 8 (by kernel_rfl) (by kernel_rfl) (by kernel_rfl)
      (x := ([.nil, .lit (.int .i64 0), .lit (.int .i64 0)], [], [])) (by kernel_rfl) rfl (by kernel_rfl)) ?_
  intro W base args ds gs before hval0 hW hcnd hk hwt _
  have hval : ∀ (j : Nat) t v, Try.f5.params[j]? = some t → args[j]? = some v → Value.okWide Try.prog W .any base t v := hval0
  have hW' := hW
  obtain ⟨p, q, hA0, hV, rfl, hfz, hnd⟩ := hW
  have hA : DataW.TrodAll enc Try.prog W 0 (fun _ => true) true Try.f5.params.toList args.toList ds p := hA0
  rw [Try.params5] at hA hval
  obtain ⟨v0, vs0, d0, ds0, p0, q0, hargs, rfl, rfl, h0, r0⟩ := trodAll_cons hA
  obtain ⟨v1, vs1, d1, ds1, p1, q1, rfl, rfl, rfl, h1, r1⟩ := trodAll_cons r0
  obtain ⟨v2, vs2, d2, ds2, p2, q2, rfl, rfl, rfl, h2, r2⟩ := trodAll_cons r1
  obtain ⟨rfl, rfl, rfl⟩ := trodAll_nil r2
  obtain rfl : args = #[v0, v1, v2] := by cases args; simp_all
  obtain ⟨rfl, rfl⟩ := trodVars_none hV
  obtain ⟨a1, rfl, rfl, rfl, w1⟩ := open_int Try.underlying3 (hval 1 3 v1 rfl rfl) h1
  obtain ⟨a2, rfl, rfl, rfl, w2⟩ := open_int Try.underlying3 (hval 2 3 v2 rfl rfl) h2
  obtain ⟨G0, av0, H0, μ0, st0, sub0, rel0, stay0, gr0, sz0, bk0⟩ := ArgSt.gridU (ArgSt.empty Try.prog W) Try.underlying22 (by kernel_rfl) (by kernel_rfl) (by kernel_rfl) (by kernel_rfl) (hval 0 22 v0 rfl rfl) h0
  have hm0 : ∀ n ∈ DataW.weights Try.prog 22 d0, n ≤ reachBytes := fun n hn => by simpa using List.all_eq_true.1 hwt _ (DataW.weights_mem_each (j := 0) (t := 22) rfl rfl n hn)
  have hz0 := sz0 reachBytes hm0
  have hr0 : reachBytes = 140737488351232 := by decide
  have short0 : Am11.Short8 G0 := ⟨by have h1 := hz0.1; rw [show Try.prog.bytesOf 34 = 24 by kernel_rfl] at h1; omega, fun l hl => by have h1 := hz0.2 l hl; rw [show Try.prog.bytesOf 3 = 8 by kernel_rfl] at h1; omega⟩
  have hk2 := of_decide_eq_true hk
  have hle : Am11.lens G0 ≤ 1048576 := by
    have hd : Am11.lens G0 ≤ Rows.uptoBulk d0 := by
      rcases bk0 with ⟨_, hG⟩ | ⟨Ar, L, Z, m, spr, hd, hG, hz⟩
      · rw [hG]; exact Nat.zero_le _
      · have := graphWays_rows (H := H) Ar L Z (List.range m) (fun r hr => hz r (List.mem_range.1 hr))
        rw [hd, hG]
        simp only [Rows.uptoBulk]
        exact Nat.le_trans this (by omega)
    simp only [List.append_nil, List.nil_append, List.cons_append, Rows.uptoBulkAll] at hk2
    omega
  have hl := Am11.law5 (G := G0) (x0 := av0) a1 a2 short0 hle 0 H0 gr0
  refine (callInf_sound Am11.codeOK Am11.extOK (w0 := W) hl st0.sim (LRel.cons rel0 (LRel.cons (.base _ rfl) (LRel.cons (.base _ rfl) (LRel.nil _))))).mono fun e W' hh => ?_
  obtain ⟨v', μ', rfl, _, hv, hS⟩ := hh
  obtain rfl := VRel.bool_inv hv
  exact ⟨_, rfl, post_true (tb := 4) graphWays_laidOut (by kernel_rfl) rfl (by kernel_rfl) rfl rfl rfl rfl hW' hS.below⟩

theorem graphWaysUpto_holds : Rows.GraphWaysUptoSaid :=
  OpenClaim.holds_of_cond 5 Try.f5 rfl rfl rfl rfl rfl rfl rfl ⟨rfl, rfl, rfl, rfl, rfl⟩ rfl rfl rfl rfl rfl (by kernel_rfl) Try.func5 (by kernel_rfl)
    (of_decide_eq_true (by kernel_rfl)) (by unfold Func.isWrapper; first | (rw [if_pos (by decide +kernel)]; kernel_rfl) | (rw [if_neg (by decide +kernel)]; exact ⟨rfl, rfl⟩))
    (fun os started H enc _ F => graphWays_lifted os started H enc F)
end Go.Proofs.Ytkemihfaohkoeaa
