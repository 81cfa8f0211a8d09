/- A part of the proof of a given statement: AmTab24, AmFrame. No condition. -/
import Derived.Test.YtedfombojnfbiaaPart7
import Derived.Test.YtedfombojnfbiaaProg
namespace Go.Proofs.Ytedfombojnfbiaa.Am24
open Go Go.Proofs.Ytedfombojnfbiaa.Am
/-- eggbox/eggboxlaw24.PiecesWords -/
noncomputable def a3 : AFunc := { nt := Proofs.Try.f3.ntmps, results := Proofs.Try.f3.results.toList, body := (annot (Proofs.Try.f3.body.getD .skip) [[0, 1, 6, 7, 9], [0, 1, 9], [0, 1, 7, 9, 15], [0, 1, 9], [0, 1, 7, 9, 15], [0, 1, 7, 9, 15]]).1, muts := false }
/-- eggbox/eggboxlaw24.PiecesPowers -/
noncomputable def a4 : AFunc := { nt := Proofs.Try.f4.ntmps, results := Proofs.Try.f4.results.toList, body := (annot (Proofs.Try.f4.body.getD .skip) [[0, 1, 2, 3, 8]]).1, muts := false }
/-- eggbox/eggboxlaw24.PiecesTells -/
noncomputable def a5 : AFunc := { nt := Proofs.Try.f5.ntmps, results := Proofs.Try.f5.results.toList, body := (annot (Proofs.Try.f5.body.getD .skip) []).1, muts := false }
/-- eggbox/eggboxlaw24.PiecesCongruent -/
noncomputable def a6 : AFunc := { nt := Proofs.Try.f6.ntmps, results := Proofs.Try.f6.results.toList, body := (annot (Proofs.Try.f6.body.getD .skip) [[0, 1, 2, 3, 4, 5, 12], [0, 1, 2, 3, 12, 15, 16], [0, 1, 2, 3, 12], [12]]).1, muts := false }
/-- eggbox/eggboxlaw24.PiecesLeast -/
noncomputable def a7 : AFunc := { nt := Proofs.Try.f7.ntmps, results := Proofs.Try.f7.results.toList, body := (annot (Proofs.Try.f7.body.getD .skip) [[0, 1, 2, 3, 4, 5, 12], [0, 1, 2, 3, 4, 5, 12, 13, 15], [0, 1, 4, 5, 12, 13, 15], [0, 1, 4, 5, 12, 15, 21], [0, 1, 4, 5, 13, 15, 21, 22], [0, 1, 4, 5, 12, 15, 21], [0, 1, 4, 5, 13, 15, 21, 22], [0, 1, 4, 5, 12, 13, 15, 21, 22], [0, 1, 4, 5, 12, 13, 15, 21, 22], [0, 1, 4, 5, 13, 15, 21, 22], [0, 1, 4, 5, 12, 15, 21]]).1, muts := false }
/-- eggbox/pieces.Words -/
noncomputable def a8 : AFunc := { nt := Proofs.Try.f8.ntmps, results := Proofs.Try.f8.results.toList, body := (annot (Proofs.Try.f8.body.getD .skip) [[0, 1, 4, 5]]).1, muts := false }
/-- eggbox/eggboxref24.Words -/
noncomputable def a9 : AFunc := { nt := Proofs.Try.f9.ntmps, results := Proofs.Try.f9.results.toList, body := (annot (Proofs.Try.f9.body.getD .skip) [[0, 1, 4, 5], [4, 5, 7], [9], [7, 9, 10], [9], [7, 9, 10], [7, 9, 10]]).1, muts := false }
/-- eggbox/pieces.Short -/
noncomputable def a10 : AFunc := { nt := Proofs.Try.f10.ntmps, results := Proofs.Try.f10.results.toList, body := (annot (Proofs.Try.f10.body.getD .skip) [[0, 1, 2, 6, 7], [0, 1, 2, 6, 7, 9, 10]]).1, muts := false }
/-- eggbox/eggboxref24.Short -/
noncomputable def a11 : AFunc := { nt := Proofs.Try.f11.ntmps, results := Proofs.Try.f11.results.toList, body := (annot (Proofs.Try.f11.body.getD .skip) [[0, 1, 2, 6, 7], [2, 6, 7, 9], [9, 11], [2, 9, 11, 12], [9, 11], [2, 9, 11, 12], [2, 9, 11, 12]]).1, muts := false }
/-- eggbox/eggboxlaw01.SameWords -/
noncomputable def a12 : AFunc := { nt := Proofs.Try.f12.ntmps, results := Proofs.Try.f12.results.toList, body := (annot (Proofs.Try.f12.body.getD .skip) [[0, 1, 4], [4], [0, 1, 5], [4], [0, 1, 5], [0, 1, 4, 5], [0, 1, 4, 5]]).1, muts := false }
/-- eggbox/eggboxlaw24.num -/
noncomputable def a13 : AFunc := { nt := Proofs.Try.f13.ntmps, results := Proofs.Try.f13.results.toList, body := (annot (Proofs.Try.f13.body.getD .skip) []).1, muts := false }
/-- eggbox/eggboxlaw24.live -/
noncomputable def b14 : AFunc := { nt := Proofs.Try.f14.ntmps, results := Proofs.Try.f14.results.toList, body := (annot (Proofs.Try.f14.body.getD .skip) []).1, muts := false }
noncomputable def a14 : AFunc := { b14 with memo := some (.bool true) }
/-- eggbox/eggboxlaw24.may -/
noncomputable def a15 : AFunc := { nt := Proofs.Try.f15.ntmps, results := Proofs.Try.f15.results.toList, body := (annot (Proofs.Try.f15.body.getD .skip) []).1, muts := false }
/-- eggbox/pieces.Same -/
noncomputable def a16 : AFunc := { nt := Proofs.Try.f16.ntmps, results := Proofs.Try.f16.results.toList, body := (annot (Proofs.Try.f16.body.getD .skip) []).1, muts := false }
/-- eggbox/eggboxlaw24.power -/
noncomputable def a17 : AFunc := { nt := Proofs.Try.f17.ntmps, results := Proofs.Try.f17.results.toList, body := (annot (Proofs.Try.f17.body.getD .skip) [[5], [0, 1, 5, 6], [5], [0, 1, 5, 6], [0, 1, 5, 6]]).1, muts := false }
/-- eggbox/pieces.Pieces -/
noncomputable def a18 : AFunc := { nt := Proofs.Try.f18.ntmps, results := Proofs.Try.f18.results.toList, body := (annot (Proofs.Try.f18.body.getD .skip) [[0, 1, 2, 6, 7], [10], [0, 9, 10, 27, 28], [10], [0, 9, 10, 27, 28], [0, 9, 10, 27, 28], [0, 9, 10, 27, 28]]).1, muts := false }
/-- eggbox/eggboxref24.Pieces -/
noncomputable def a19 : AFunc := { nt := Proofs.Try.f19.ntmps, results := Proofs.Try.f19.results.toList, body := (annot (Proofs.Try.f19.body.getD .skip) [[0, 1, 2, 6, 7], [9], [1, 9, 10, 11], [9], [1, 9, 10, 11], [1, 9, 10, 11], [1, 9, 10, 11]]).1, muts := false }
/-- eggbox/eggboxref24.Same -/
noncomputable def a20 : AFunc := { nt := Proofs.Try.f20.ntmps, results := Proofs.Try.f20.results.toList, body := (annot (Proofs.Try.f20.body.getD .skip) []).1, muts := false }
/-- eggbox/pieces.Differ -/
noncomputable def a21 : AFunc := { nt := Proofs.Try.f21.ntmps, results := Proofs.Try.f21.results.toList, body := (annot (Proofs.Try.f21.body.getD .skip) [[0, 1, 2, 3, 8, 9, 10], [8, 9, 10], [0, 12, 13, 35, 36], [8, 9, 10], [0, 12, 13, 35, 36], [0, 8, 9, 10, 12, 13, 35, 36], [0, 8, 9, 10, 12, 13, 35, 36]]).1, muts := false }
/-- eggbox/eggboxref24.Differ -/
noncomputable def a22 : AFunc := { nt := Proofs.Try.f22.ntmps, results := Proofs.Try.f22.results.toList, body := (annot (Proofs.Try.f22.body.getD .skip) [[0, 1, 2, 3, 8, 9, 10], [8, 9, 10], [2, 3, 12, 13], [8, 9, 10], [2, 3, 12, 13], [2, 3, 8, 9, 10, 12, 13], [2, 3, 8, 9, 10, 12, 13]]).1, muts := false }
/-- eggbox/pieces.Is -/
noncomputable def a23 : AFunc := { nt := Proofs.Try.f23.ntmps, results := Proofs.Try.f23.results.toList, body := (annot (Proofs.Try.f23.body.getD .skip) [[0, 5], [0, 1, 5, 6], [0, 5], [0, 1, 5, 6], [0, 1, 5, 6], [0, 1, 5, 6]]).1, muts := false }
/-- eggbox/eggboxref24.Is -/
noncomputable def a24 : AFunc := { nt := Proofs.Try.f24.ntmps, results := Proofs.Try.f24.results.toList, body := (annot (Proofs.Try.f24.body.getD .skip) [[0, 5], [0, 1, 5, 6], [0, 5], [0, 1, 5, 6], [0, 1, 5, 6], [0, 1, 5, 6]]).1, muts := false }
/-- eggbox/eggboxref01.Order -/
noncomputable def a25 : AFunc := { nt := Proofs.Try.f25.ntmps, results := Proofs.Try.f25.results.toList, body := (annot (Proofs.Try.f25.body.getD .skip) [[0, 1, 4], [4]]).1, muts := false }
/-- eggbox/pieces.check -/
noncomputable def a26 : AFunc := { nt := Proofs.Try.f26.ntmps, results := Proofs.Try.f26.results.toList, body := (annot (Proofs.Try.f26.body.getD .skip) [[0, 1, 2, 6], [0, 2, 6], [6], [0, 22, 23, 24], [6], [0, 22, 23, 24], [0, 6, 22, 23, 24], [0, 6, 22, 23, 24]]).1, muts := false }
/-- eggbox/pieces.classes -/
noncomputable def a27 : AFunc := { nt := Proofs.Try.f27.ntmps, results := Proofs.Try.f27.results.toList, body := (annot (Proofs.Try.f27.body.getD .skip) [[4, 5, 6, 7], [0, 1, 4, 5, 6, 8, 9], [4, 5, 6, 7], [0, 1, 4, 5, 6, 8, 9], [0, 1, 4, 5, 6, 7, 8, 9], [0, 1, 4, 5, 6, 7, 8, 9], [0, 1, 4, 5, 6, 8, 9, 26, 27], [0, 1, 4, 5, 6, 7, 8, 9], [0, 1, 4, 5, 6, 8, 9, 26, 27], [0, 1, 4, 5, 6, 7, 8, 9, 26, 27], [0, 1, 4, 5, 6, 7, 8, 9, 12, 26, 27], [0, 1, 4, 5, 6, 7, 8, 9, 10, 11, 26, 27]]).1, muts := false }
/-- eggbox/eggboxref24.wrong -/
noncomputable def a28 : AFunc := { nt := Proofs.Try.f28.ntmps, results := Proofs.Try.f28.results.toList, body := (annot (Proofs.Try.f28.body.getD .skip) [[0, 2, 3, 9], [0, 3, 9], [9]]).1, muts := false }
/-- eggbox/eggboxref24.Classes -/
noncomputable def a29 : AFunc := { nt := Proofs.Try.f29.ntmps, results := Proofs.Try.f29.results.toList, body := (annot (Proofs.Try.f29.body.getD .skip) [[4, 5, 7], [0, 6, 7, 8], [4, 5, 7], [0, 6, 7, 8], [0, 4, 5, 6, 7, 8], [0, 4, 5, 6, 7, 8], [0, 6, 7, 8, 9], [0, 4, 5, 6, 7, 8], [0, 6, 7, 8, 9], [0, 4, 5, 6, 7, 8, 9], [0, 6, 7, 8, 9, 10, 11, 12], [0, 6, 7, 8, 9, 10, 11, 12], [0, 6, 7, 8, 9, 10, 11, 12], [0, 6, 7, 8, 9, 10, 11, 12], [0, 6, 7, 8, 9, 10, 11, 12], [0, 4, 5, 6, 7, 8, 9, 12], [0, 4, 5, 6, 7, 8, 9, 10, 11, 12]]).1, muts := false }
/-- eggbox/pieces.of -/
noncomputable def a30 : AFunc := { nt := Proofs.Try.f30.ntmps, results := Proofs.Try.f30.results.toList, body := (annot (Proofs.Try.f30.body.getD .skip) [[6, 7], [0, 1, 2, 6, 7, 11, 12], [6, 7], [0, 1, 2, 6, 7, 11, 12], [0, 1, 2, 6, 7, 11, 12]]).1, muts := false }
/-- eggbox/eggboxref01.Check -/
noncomputable def a31 : AFunc := { nt := Proofs.Try.f31.ntmps, results := Proofs.Try.f31.results.toList, body := (annot (Proofs.Try.f31.body.getD .skip) [[0, 1, 4], [4], [0, 1, 6], [4], [0, 1, 6], [0, 1, 4, 6], [0, 1, 4, 6]]).1, muts := false }
/-- eggbox/pieces.shorter -/
noncomputable def a32 : AFunc := { nt := Proofs.Try.f32.ntmps, results := Proofs.Try.f32.results.toList, body := (annot (Proofs.Try.f32.body.getD .skip) [[5], [0, 5, 6, 7, 8], [5], [0, 5, 6, 7, 8], [0, 5, 6, 7, 8]]).1, muts := false }
/-- (*eggbox/pieces.kind).has -/
noncomputable def a33 : AFunc := { nt := Proofs.Try.f33.ntmps, results := Proofs.Try.f33.results.toList, body := (annot (Proofs.Try.f33.body.getD .skip) []).1, muts := false }
/-- eggbox/pieces.text -/
noncomputable def a34 : AFunc := { nt := Proofs.Try.f34.ntmps, results := Proofs.Try.f34.results.toList, body := (annot (Proofs.Try.f34.body.getD .skip) [[5], [0, 1, 5], [5], [0, 1, 5], [0, 1, 5]]).1, muts := false }
/-- eggbox/eggboxref24.short -/
noncomputable def a35 : AFunc := { nt := Proofs.Try.f35.ntmps, results := Proofs.Try.f35.results.toList, body := (annot (Proofs.Try.f35.body.getD .skip) [[5], [0, 1, 5, 6], [5], [0, 1, 5, 6], [0, 1, 5, 6], [0, 1, 5, 6], [0, 1, 5, 6], [0, 1, 5, 6, 7], [0, 1, 5, 6], [0, 1, 5, 6, 7], [0, 1, 5, 6, 7]]).1, muts := false }
/-- strings.Compare -/
noncomputable def a36 : AFunc := { nt := Proofs.Try.f36.ntmps, results := Proofs.Try.f36.results.toList, body := (annot (Proofs.Try.f36.body.getD .skip) []).1, muts := false }
/-- eggbox/word.Check -/
noncomputable def a37 : AFunc := { nt := Proofs.Try.f37.ntmps, results := Proofs.Try.f37.results.toList, body := (annot (Proofs.Try.f37.body.getD .skip) [[0, 1, 4], [4], [0, 14], [4], [0, 14, 15], [0, 4, 14], [0, 4, 14]]).1, muts := false }
/-- eggbox/pieces.first -/
noncomputable def a38 : AFunc := { nt := Proofs.Try.f38.ntmps, results := Proofs.Try.f38.results.toList, body := (annot (Proofs.Try.f38.body.getD .skip) []).1, muts := false }
/-- (eggbox/pieces.kind).with -/
noncomputable def a39 : AFunc := { nt := Proofs.Try.f39.ntmps, results := Proofs.Try.f39.results.toList, body := (annot (Proofs.Try.f39.body.getD .skip) [[8, 9], [1, 3, 4, 8, 9, 14, 15], [8, 9], [1, 3, 4, 8, 9, 14, 15], [1, 3, 4, 8, 9, 14, 15], [1, 3, 4, 8, 9, 14, 15]]).1, muts := false }
/-- eggbox/eggboxref01.Letters -/
noncomputable def a40 : AFunc := { nt := Proofs.Try.f40.ntmps, results := Proofs.Try.f40.results.toList, body := (annot (Proofs.Try.f40.body.getD .skip) [[2]]).1, muts := false }
/-- eggbox/eggboxref24.Truths -/
noncomputable def a41 : AFunc := { nt := Proofs.Try.f41.ntmps, results := Proofs.Try.f41.results.toList, body := (annot (Proofs.Try.f41.body.getD .skip) [[5], [0, 1, 5, 6], [5], [0, 1, 5, 6], [0, 1, 5, 6], [0, 1, 5, 6]]).1, muts := false }
/-- slices.Reverse[[]byte,byte] -/
noncomputable def a42 : AFunc := { nt := Proofs.Try.f42.ntmps, results := Proofs.Try.f42.results.toList, body := (annot (Proofs.Try.f42.body.getD .skip) [[], [0, 2, 3], [], [0, 2, 3], [0, 2, 3]]).1, muts := true }
/-- internal/bytealg.CompareString -/
noncomputable def a43 : AFunc := { nt := Proofs.Try.f43.ntmps, results := Proofs.Try.f43.results.toList, body := (annot (Proofs.Try.f43.body.getD .skip) []).1, muts := false }
/-- (*eggbox/pieces.kind).add -/
noncomputable def a44 : AFunc := { nt := Proofs.Try.f44.ntmps, results := Proofs.Try.f44.results.toList, body := (annot (Proofs.Try.f44.body.getD .skip) []).1, muts := true }
noncomputable def tab : List (Nat × AFunc) := [(3, a3), (4, a4), (5, a5), (6, a6), (7, a7), (8, a8), (9, a9), (10, a10), (11, a11), (12, a12), (13, a13), (14, a14), (15, a15), (16, a16), (17, a17), (18, a18), (19, a19), (20, a20), (21, a21), (22, a22), (23, a23), (24, a24), (25, a25), (26, a26), (27, a27), (28, a28), (29, a29), (30, a30), (31, a31), (32, a32), (33, a33), (34, a34), (35, a35), (36, a36), (37, a37), (38, a38), (39, a39), (40, a40), (41, a41), (42, a42), (43, a43), (44, a44)]
def ext : FuncId → Option (List Value → Option Value)
  | 45 => some fun
    | [.string a, .string b] => some (.int .i64 (Extern.BytealgCompare.cmp a b))
    | _ => none
  | _ => none
noncomputable def cfg : Cfg := { P := Proofs.Try.prog, ext := ext, code := fun f => tab.lookup f }
noncomputable def cfg0 : Cfg := { P := Proofs.Try.prog, ext := ext, code := fun f => ((14, b14) :: tab).lookup f }
end Go.Proofs.Ytedfombojnfbiaa.Am24
namespace Go.Proofs.Ytedfombojnfbiaa.Am
open Go Go.RowKit

/-- What lies below stays: the relation stays. -/
theorem Sim.frame {P : Program} {w0 w w' : World} {μ : PMap} {H : AHeap} (h : Sim P w0 μ H w) (hb : Below w.heap.size w w') : Sim P w0 μ H w' := by
  have hs := h.below.size
  refine ⟨⟨hb.os.trans h.below.os, hb.tape.trans h.below.tape, hb.output.trans h.below.output, Nat.le_trans hs hb.size, fun k hk => (hb.block k (by omega)).trans (h.below.block k hk)⟩, fun id L m e => ?_, h.nohole, h.ver, fun id o ho => ?_, h.sep⟩
  · obtain ⟨a, b⟩ := h.dom id L m e
    exact ⟨a, Nat.lt_of_lt_of_le b hb.size⟩
  · exact (h.ok id o ho).keep (Sub.refl μ) (fun _ => rfl) fun L m _ hm => hb.block _ (h.dom id L m hm).2

theorem Sim.empty (P : Program) (w : World) : Sim P w (fun _ _ => none) [] w :=
  ⟨⟨rfl, rfl, rfl, Nat.le_refl _, fun _ _ => rfl⟩, fun _ _ _ h => by simp at h, fun _ _ _ h => by simp at h, fun _ _ _ _ _ _ _ h => by simp at h, fun _ _ h => by simp at h, fun _ _ _ _ _ _ _ _ _ h => by simp at h⟩

/-- A closed function that was run once is known. -/
theorem memo_of {C : Cfg} (hC : CodeOK C) (hext : ExtSound C.P C.ext) {f : FuncId} {v : Value} {H1 : AHeap} (h : callInf C f [] 0 [] = some (v, H1)) (hv : plain1 v = true) (w0 : World) (H : AHeap) (μ : PMap) (w : World) (hS : Sim C.P w0 μ H w) :
    Calls C.P f #[] w fun e w' => ∃ v' μ', e = .returned v' ∧ Sub μ μ' ∧ VRel μ' v v' ∧ Sim C.P w0 μ' H w' := by
  refine (callInf_sound hC hext (w0 := w) (args' := []) h (Sim.empty C.P w) (LRel.nil _)).mono fun e w' hh => ?_
  obtain ⟨v', μ', h1, _, h3, h4⟩ := hh
  refine ⟨v', μ, h1, Sub.refl μ, ?_, hS.frame h4.below⟩
  rw [VRel.plain1_inv hv h3]
  exact VRel.of_plain1 hv
end Go.Proofs.Ytedfombojnfbiaa.Am
