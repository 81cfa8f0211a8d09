/- GraphTurned: where what comes in is of bulk at most 1048576 the Go function returns true, and its arguments read as they did; the card ties the listed variable to the program's text. No condition beyond those of the given card of the second form. -/
import Derived.Test.YtkemihfaohkoeaaDoorPart14
import Derived.Test.YtkemihfaohkoeaaDoorRows
import Derived.Test.YtkemihfaohkoeaaDoorCards
import Derived.Test.YtkemihfaohkoeaaDoorTie
import Derived.Deep.DeepHandedRow
namespace Go.Proofs.YtkemihfaohkoeaaDoor
open Go Go.Proofs.YtkemihfaohkoeaaDoor.Am Go.ChangeShapes Go.WideShapes Go.ChangeAt Go.RowKit Go.ChangeMaps
theorem graphTurned_own : ownKnob Tryd.prog.godebug = none := by kernel_rfl
theorem graphTurned_laidOut : laidOutB Tryd.prog = true := by kernel_rfl
theorem graphTurned_lits {H : Type} (k : IntKind) : ∀ zs : List Int, Rows.uptoBulkAll (Go.ChangeShapes.lits (H := H) k zs) = zs.length
  | [] => rfl
  | z :: zs => by
    have ih := graphTurned_lits (H := H) k zs
    simp only [Go.ChangeShapes.lits, List.map_cons, Rows.uptoBulkAll, Rows.uptoBulk, List.length_cons] at ih ⊢
    omega
theorem graphTurned_row {H : Type} (a : Option Addr) (L : Nat) (Z : List Int) (h : a = none → L = 0) : (Z.take L).length + 1 ≤ Rows.uptoBulk (Go.Deep.intRow (H := H) .i64 a L Z) := by
  cases a with
  | none => rw [h rfl]; simp [Go.Deep.intRow, Rows.uptoBulk]
  | some x =>
    simp only [Go.Deep.intRow, Rows.uptoBulk, graphTurned_lits]
    omega
theorem graphTurned_rows {H : Type} (Ar : Nat → Option Addr) (L : Nat → Nat) (Z : Nat → List Int) : ∀ l : List Nat, (∀ r ∈ l, Ar r = none → L r = 0) →
    ((l.map fun r => (Z r).take (L r)).map List.length).sum ≤ Rows.uptoBulkAll (l.map fun r => Go.Deep.intRow (H := H) .i64 (Ar r) (L r) (Z r))
  | [], _ => by simp [Rows.uptoBulkAll]
  | r :: l, h => by
    have ih := graphTurned_rows (H := H) Ar L Z l (fun s hs => h s (List.mem_cons_of_mem _ hs))
    have h1 := graphTurned_row (H := H) (Ar r) (L r) (Z r) (h r (by simp))
    simp only [List.map_cons, List.sum_cons, Rows.uptoBulkAll]
    omega
theorem graphTurned_tabNo : Tryd.prog.globalNamed "math/bits.deBruijn64tab" = some 0 := by kernel_rfl
theorem graphTurned_tabTy : (Tryd.prog.globals[0]?).map (·.type) = some 93 := by kernel_rfl
theorem graphTurned_tabCells : Tryd.prog.cellsOf 93 = 64 := by kernel_rfl
theorem graphTurned_tabCell : Tryd.prog.cellsOf 5 = 1 := by kernel_rfl
theorem graphTurned_table {W : World} (h : laidMetH Tryd.prog Rows.graphTurnedUptoRow.laid W) : GL Tryd.prog W :=
  GL.tab graphTurned_tabNo (Lib.tabIs_of_head (rest := []) graphTurned_tabNo graphTurned_tabTy (show Tryd.prog.underlying 93 = some (.array 64 5) by kernel_rfl) (show Tryd.prog.underlying 5 = some (.int .u8) by kernel_rfl) graphTurned_tabCell graphTurned_tabCells h)
noncomputable def graphTurned_world (os : Os) : World :=
  { World.holding Tryd.prog os ⟨#[], #[], []⟩ with heap := (World.holding Tryd.prog os ⟨#[], #[], []⟩).heap.modify 0 fun
      | .cells _ t frozen => .cells ((dBtab.map fun (n : Nat) => Value.int .u8 (n : Int)).toArray) t frozen
      | o => o }
theorem graphTurned_laidMet (os : Os) : laidMet Tryd.prog Rows.graphTurnedUptoRow.laid ((graphTurned_world os).forCall (fun _ _ => 0) ⟨#[], #[.slice none 0 0, .int .i64 0, .int .i64 0], []⟩).memory :=
  laidMet_of_run' 8 (by kernel_rfl) (by kernel_rfl)
theorem graphTurned_reads (os : Os) {H : Type} (enc : TypeId × Value → H) : ∃ places, DataW.whole enc Tryd.prog ((graphTurned_world os).forCall (fun _ _ => 0) ⟨#[], #[.slice none 0 0, .int .i64 0, .int .i64 0], []⟩).memory Tryd.f4.params.toList Rows.graphTurnedSpec.vars false (#[.slice none 0 0, .int .i64 0, .int .i64 0] : Array Value).toList 8 = some ([.nil, .lit (.int .i64 0), .lit (.int .i64 0)], [], places) :=
  ⟨[], by kernel_rfl⟩
set_option maxRecDepth 100000 in
theorem graphTurned_lifted (os : Os) (started : os.Started) (H : Type) (enc : TypeId × Value → H) (F : Stop.Interp) :
    ReturnsInHanded {} Tryd.checked os 4 .any ((Rows.OpenSpec.upto Rows.graphTurnedSpec).preRow enc Tryd.prog Tryd.f4 Rows.graphTurnedUptoRow.domain false Rows.graphTurnedUptoRow.laid) (((Rows.OpenSpec.upto Rows.graphTurnedSpec).at F).post enc Tryd.prog Tryd.f4 false true false false) := by
  obtain ⟨places, hx⟩ := graphTurned_reads os enc
  refine returnsInHanded_of_row (C := Tryd.checked) (s := (Rows.OpenSpec.upto Rows.graphTurnedSpec)) graphTurned_own started (by kernel_rfl) Tryd.func4
    (witness_row_at (enc := enc) (C := Tryd.checked) false (graphTurned_world os) #[.slice none 0 0, .int .i64 0, .int .i64 0] rfl (by kernel_rfl) (by kernel_rfl) (by kernel_rfl)
      (OpenSpec.preRow_of_cond 8 hx (by kernel_rfl) (fun k hk => by cases hk; kernel_rfl) (by kernel_rfl) (graphTurned_laidMet os))) ?_
  intro W base args ds gs before hval0 hW hcnd hk0 hwt hL _ _
  have hk := hk0 _ rfl
  have hGL := graphTurned_table hL
  have hval : ∀ (j : Nat) t v, Tryd.f4.params[j]? = some t → args[j]? = some v → Value.okWide Tryd.prog W .any base t v := hval0
  have hW' := hW
  obtain ⟨p, q, hA0, hV, rfl, hfz, hnd⟩ := hW
  have hA : DataW.TrodAll enc Tryd.prog W 0 (fun _ => true) true Tryd.f4.params.toList args.toList ds p := hA0
  rw [Tryd.params4] at hA hval
  obtain ⟨v0, vs0, d0, ds0, p0, q0, hargs, rfl, rfl, h0, r0⟩ := trodAll_cons hA
  obtain ⟨v1, vs1, d1, ds1, p1, q1, rfl, rfl, rfl, h1, r1⟩ := trodAll_cons r0
  obtain ⟨v2, vs2, d2, ds2, p2, q2, rfl, rfl, rfl, h2, r2⟩ := trodAll_cons r1
  obtain ⟨rfl, rfl, rfl⟩ := trodAll_nil r2
  obtain rfl : args = #[v0, v1, v2] := by cases args; simp_all
  obtain ⟨rfl, rfl⟩ := trodVars_none hV
  obtain ⟨a1, rfl, rfl, rfl, w1⟩ := open_int Tryd.underlying3 (hval 1 3 v1 rfl rfl) h1
  obtain ⟨a2, rfl, rfl, rfl, w2⟩ := open_int Tryd.underlying3 (hval 2 3 v2 rfl rfl) h2
  obtain ⟨G0, av0, H0, μ0, st0, sub0, rel0, stay0, gr0, sz0, bk0⟩ := ArgSt.gridU (ArgSt.empty Tryd.prog W hGL) Tryd.underlying22 (by kernel_rfl) (by kernel_rfl) (by kernel_rfl) (by kernel_rfl) (hval 0 22 v0 rfl rfl) h0
  have hm0 : ∀ n ∈ DataW.weights Tryd.prog 22 d0, n ≤ reachBytes := fun n hn => by simpa using List.all_eq_true.1 hwt _ (DataW.weights_mem_each (j := 0) (t := 22) rfl rfl n hn)
  have hz0 := sz0 reachBytes hm0
  have hr0 : reachBytes = 140737488351232 := by decide
  have short0 : Am11d.Short8 G0 := ⟨by have h1 := hz0.1; rw [show Tryd.prog.bytesOf 24 = 24 by kernel_rfl] at h1; omega, fun l hl => by have h1 := hz0.2 l hl; rw [show Tryd.prog.bytesOf 3 = 8 by kernel_rfl] at h1; omega⟩
  have hk2 := of_decide_eq_true hk
  have hle : Am11d.lens G0 ≤ 1048576 := by
    have hd : Am11d.lens G0 ≤ Rows.uptoBulk d0 := by
      rcases bk0 with ⟨_, hG⟩ | ⟨Ar, L, Z, m, spr, hd, hG, hz⟩
      · rw [hG]; exact Nat.zero_le _
      · have := graphTurned_rows (H := H) Ar L Z (List.range m) (fun r hr => hz r (List.mem_range.1 hr))
        rw [hd, hG]
        simp only [Rows.uptoBulk]
        exact Nat.le_trans this (by omega)
    simp only [List.append_nil, List.nil_append, List.cons_append, Rows.uptoBulkAll] at hk2
    omega
  have hl := Am11d.law4 (G := G0) (x0 := av0) a1 a2 short0 hle 0 H0 gr0
  refine (callInf_sound Am11d.codeOK Am11d.extOK (w0 := W) hl st0.sim (LRel.cons rel0 (LRel.cons (.base _ rfl) (LRel.cons (.base _ rfl) (LRel.nil _))))).mono fun e W' hh => ?_
  obtain ⟨v', μ', rfl, _, hv, hS⟩ := hh
  obtain rfl := VRel.bool_inv hv
  exact ⟨_, rfl, post_true (tb := 4) graphTurned_laidOut (by kernel_rfl) rfl (by kernel_rfl) rfl rfl rfl rfl hW' hS.below⟩

theorem graphTurnedUpto_holds : Rows.GraphTurnedUptoSaid :=
  OpenClaim.holds_of_cond 4 Tryd.f4 rfl rfl rfl rfl rfl rfl rfl ⟨rfl, rfl, rfl, rfl, rfl⟩ rfl rfl rfl rfl rfl (by kernel_rfl) Tryd.func4 (by kernel_rfl)
    (of_decide_eq_true (by kernel_rfl)) (by unfold Func.isWrapper; first | (rw [if_pos (by decide +kernel)]; kernel_rfl) | (rw [if_neg (by decide +kernel)]; exact ⟨rfl, rfl⟩))
    (fun os started H enc _ F => by rw [OpenClaim.pre_eq_preRow]; exact graphTurned_lifted os started H enc F)
theorem graphTurned_plain (f : FuncId) (fn : Func) (hf : Tryd.pinned.checked.prog.funcNamed Rows.graphTurnedUptoRow.func = some f) (hfn : Tryd.pinned.checked.prog.funcs[f]? = some fn) :
    false = Tryd.pinned.checked.prog.looks [] ∧ ∀ (j : Nat) t, fn.params[j]? = some t → Tryd.pinned.checked.prog.wantsStandIn t = false := by
  obtain rfl : f = 4 := Option.some.inj ((show Tryd.prog.funcNamed Rows.graphTurnedUptoRow.func = some 4 by kernel_rfl).symm.trans hf) |>.symm
  obtain rfl : fn = Tryd.f4 := (Option.some.inj (Tryd.func4.symm.trans hfn)).symm
  refine ⟨by kernel_rfl, fun j t ht => ?_⟩
  rw [Tryd.params4] at ht
  obtain h : t = 22 ∨ t = 3 := by simpa using Array.mem_of_getElem? ht
  rcases h with rfl | rfl
  · exact (show Tryd.prog.wantsStandIn 22 = false by kernel_rfl)
  · exact (show Tryd.prog.wantsStandIn 3 = false by kernel_rfl)
theorem graphTurnedCard_holds : Rows.GraphTurnedUptoCardSaid :=
  Claim7.holds_tied_plain_at .later [] _ _ _ _ graphTurnedUpto_holds (fun _ h => by cases h) (by kernel_rfl) (fun _ h => by cases h) graphTurnedUpto_row_tie rfl ⟨rfl, rfl⟩ (by kernel_rfl) rfl graphTurned_plain (by kernel_rfl)
end Go.Proofs.YtkemihfaohkoeaaDoor
