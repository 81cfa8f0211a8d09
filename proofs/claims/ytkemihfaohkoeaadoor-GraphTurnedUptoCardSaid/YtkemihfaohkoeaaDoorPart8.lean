/- A part of the proof of a given statement: AmTab11d, AmFrame. No condition. -/
import Derived.Test.YtkemihfaohkoeaaDoorPart7
import Derived.Test.YtkemihfaohkoeaaDoorProg
namespace Go.Proofs.YtkemihfaohkoeaaDoor.Am11d
open Go Go.Proofs.YtkemihfaohkoeaaDoor.Am
/-- eggbox/eggboxlaw11.GraphPaths -/
noncomputable def a3 : AFunc := { nt := Proofs.Tryd.f3.ntmps, results := Proofs.Tryd.f3.results.toList, body := (annot (Proofs.Tryd.f3.body.getD .skip) []).1, muts := false }
/-- eggbox/eggboxlaw11.GraphTurned -/
noncomputable def a4 : AFunc := { nt := Proofs.Tryd.f4.ntmps, results := Proofs.Tryd.f4.results.toList, body := (annot (Proofs.Tryd.f4.body.getD .skip) [[1, 2, 6, 7, 8], [1, 2, 6, 7, 8], [1, 2, 6, 7, 8]]).1, muts := false }
/-- eggbox/eggboxlaw11.lent -/
noncomputable def a5 : AFunc := { nt := Proofs.Tryd.f5.ntmps, results := Proofs.Tryd.f5.results.toList, body := (annot (Proofs.Tryd.f5.body.getD .skip) [[3], [0, 3, 4], [3], [0, 3, 4], [0, 3, 4]]).1, muts := false }
/-- eggbox/graph.Path -/
noncomputable def a6 : AFunc := { nt := Proofs.Tryd.f6.ntmps, results := Proofs.Tryd.f6.results.toList, body := (annot (Proofs.Tryd.f6.body.getD .skip) [[0, 1, 2, 6, 7, 8], [0, 1, 2, 6, 7, 8], [0, 1, 2, 10], [0, 1, 2, 10, 11, 12, 13], [0, 1, 2, 10], [0, 1, 2, 10, 11, 12, 13], [0, 1, 2, 10, 11, 12, 13], [0, 1, 2, 10, 11, 12, 13], [0, 1, 2, 10, 11, 12, 13, 66, 67, 68], [0, 1, 2, 10, 11, 12, 13], [0, 1, 2, 10, 11, 12, 13, 66, 67, 68], [0, 1, 2, 10, 11, 12, 13, 66, 67, 68], [0, 1, 2, 10, 11, 12, 13, 66, 67, 68], [0, 1, 2, 10, 11, 12, 13], [0, 1, 2, 6, 7, 8, 10], [16], [0, 2, 10, 16, 17], [16], [0, 2, 10, 16, 17], [0, 2, 10, 16, 17], [0, 2, 10, 16, 18], [0, 2, 10, 16, 17, 18, 115, 116, 117], [0, 2, 10, 16, 18], [0, 2, 10, 16, 17, 18, 115, 116, 117], [0, 2, 10, 16, 17, 18, 115, 116, 117], [0, 2, 10, 16, 17, 18, 115, 116, 117]]).1, muts := false }
/-- eggbox/graph.Depth -/
noncomputable def a7 : AFunc := { nt := Proofs.Tryd.f7.ntmps, results := Proofs.Tryd.f7.results.toList, body := (annot (Proofs.Tryd.f7.body.getD .skip) [[0, 2, 3], [8], [7, 8, 22, 23], [8], [7, 8, 22, 23], [7, 8, 22, 23]]).1, muts := false }
/-- eggbox/eggboxref11.Path -/
noncomputable def a8 : AFunc := { nt := Proofs.Tryd.f8.ntmps, results := Proofs.Tryd.f8.results.toList, body := (annot (Proofs.Tryd.f8.body.getD .skip) [[0, 1, 2, 6, 7, 8], [0, 1, 2, 6, 7, 8], [0, 1, 2, 6, 7, 8, 10], [11], [0, 2, 10, 11, 12], [11], [0, 2, 10, 11, 12], [0, 2, 10, 11, 12], [0, 2, 10, 11, 13], [0, 2, 10, 11, 12, 13, 14], [0, 2, 10, 11, 13], [0, 2, 10, 11, 12, 13, 14], [0, 2, 10, 11, 12, 13, 14], [0, 2, 10, 11, 12, 13, 14]]).1, muts := false }
/-- eggbox/eggboxref11.Depth -/
noncomputable def a9 : AFunc := { nt := Proofs.Tryd.f9.ntmps, results := Proofs.Tryd.f9.results.toList, body := (annot (Proofs.Tryd.f9.body.getD .skip) [[2, 3, 4]]).1, muts := false }
/-- eggbox/eggboxlaw01.SameInts -/
noncomputable def a10 : AFunc := { nt := Proofs.Tryd.f10.ntmps, results := Proofs.Tryd.f10.results.toList, body := (annot (Proofs.Tryd.f10.body.getD .skip) [[0, 1, 4], [4], [0, 1, 5], [4], [0, 1, 5], [0, 1, 4, 5], [0, 1, 4, 5]]).1, muts := false }
/-- eggbox/eggboxlaw11.num -/
noncomputable def a11 : AFunc := { nt := Proofs.Tryd.f11.ntmps, results := Proofs.Tryd.f11.results.toList, body := (annot (Proofs.Tryd.f11.body.getD .skip) []).1, muts := false }
/-- eggbox/eggboxlaw11.stays -/
noncomputable def a12 : AFunc := { nt := Proofs.Tryd.f12.ntmps, results := Proofs.Tryd.f12.results.toList, body := (annot (Proofs.Tryd.f12.body.getD .skip) [[0, 1, 4], [0, 1, 5], [0, 1, 4], [0, 1, 5], [0, 1, 4, 5], [0, 1, 4, 5]]).1, muts := false }
/-- eggbox/eggboxlaw01.ApartInts -/
noncomputable def a13 : AFunc := { nt := Proofs.Tryd.f13.ntmps, results := Proofs.Tryd.f13.results.toList, body := (annot (Proofs.Tryd.f13.body.getD .skip) [[0, 3], [0, 3, 4], [0, 3], [0, 3, 4], [0, 3, 4], [0, 3, 4], [0, 3, 4, 5], [0, 3, 4], [0, 3, 4, 5], [0, 3, 4, 5], [0, 3], [0, 3, 6], [0, 3], [0, 3, 6], [0, 3, 6], [0, 3, 6, 7], [0, 3, 6, 7, 8], [0, 3, 6, 7], [0, 3, 6, 7, 8], [0, 3, 6, 7, 8], [2], [0, 3, 9], [2], [0, 3, 9], [0, 2, 3, 9], [0, 2, 3, 9], [0, 3, 9, 10], [0, 2, 3, 9], [0, 3, 9, 10], [0, 2, 3, 9, 10], [0, 2, 3, 9, 10]]).1, muts := true }
/-- eggbox/eggboxlaw11.knows -/
noncomputable def b14 : AFunc := { nt := Proofs.Tryd.f14.ntmps, results := Proofs.Tryd.f14.results.toList, body := (annot (Proofs.Tryd.f14.body.getD .skip) []).1, muts := false }
noncomputable def a14 : AFunc := { b14 with memo := some (.bool true) }
/-- eggbox/eggboxlaw11.within -/
noncomputable def a15 : AFunc := { nt := Proofs.Tryd.f15.ntmps, results := Proofs.Tryd.f15.results.toList, body := (annot (Proofs.Tryd.f15.body.getD .skip) [[4], [0, 3, 4, 5], [4], [0, 3, 4, 5], [0, 3, 4, 5], [0, 3, 4, 5, 6], [0, 3, 4, 5, 6, 7], [0, 3, 4, 5, 6], [0, 3, 4, 5, 6, 7], [0, 3, 4, 5, 6, 7]]).1, muts := false }
/-- eggbox/graph.Turn -/
noncomputable def a16 : AFunc := { nt := Proofs.Tryd.f16.ntmps, results := Proofs.Tryd.f16.results.toList, body := (annot (Proofs.Tryd.f16.body.getD .skip) [[0, 2, 3]]).1, muts := false }
/-- eggbox/graph.Components -/
noncomputable def a17 : AFunc := { nt := Proofs.Tryd.f17.ntmps, results := Proofs.Tryd.f17.results.toList, body := (annot (Proofs.Tryd.f17.body.getD .skip) [[0, 2, 3, 4]]).1, muts := false }
/-- eggbox/graph.Loops -/
noncomputable def a18 : AFunc := { nt := Proofs.Tryd.f18.ntmps, results := Proofs.Tryd.f18.results.toList, body := (annot (Proofs.Tryd.f18.body.getD .skip) [[0, 2, 3], [2, 5], [2, 5, 15, 16, 17], [2, 5], [2, 5, 15, 16, 17], [2, 5, 15, 16, 17], [2, 5, 15, 16, 17]]).1, muts := false }
/-- eggbox/graph.Reach -/
noncomputable def a19 : AFunc := { nt := Proofs.Tryd.f19.ntmps, results := Proofs.Tryd.f19.results.toList, body := (annot (Proofs.Tryd.f19.body.getD .skip) [[0, 1, 4, 5], [0, 1, 4, 5], [4, 7], [4, 7, 30, 31], [4, 7], [4, 7, 30, 31], [4, 7, 30, 31], [4, 7, 30, 31]]).1, muts := false }
/-- eggbox/eggboxref11.Has -/
noncomputable def a20 : AFunc := { nt := Proofs.Tryd.f20.ntmps, results := Proofs.Tryd.f20.results.toList, body := (annot (Proofs.Tryd.f20.body.getD .skip) []).1, muts := false }
/-- eggbox/eggboxlaw01.LentInts -/
noncomputable def a21 : AFunc := { nt := Proofs.Tryd.f21.ntmps, results := Proofs.Tryd.f21.results.toList, body := (annot (Proofs.Tryd.f21.body.getD .skip) []).1, muts := false }
/-- eggbox/graph.Check -/
noncomputable def a22 : AFunc := { nt := Proofs.Tryd.f22.ntmps, results := Proofs.Tryd.f22.results.toList, body := (annot (Proofs.Tryd.f22.body.getD .skip) [[0, 2], [2], [0, 10, 11, 12], [2], [0, 10, 11, 12], [0, 2, 10, 11, 12], [0, 2, 10, 11, 12], [0, 10, 11, 12, 16, 17, 18], [0, 2, 10, 11, 12], [0, 10, 11, 12, 16, 17, 18], [0, 2, 10, 11, 12, 16, 17, 18], [0, 2, 10, 11, 12, 16, 17, 18]]).1, muts := false }
/-- eggbox/graph.turned -/
noncomputable def a23 : AFunc := { nt := Proofs.Tryd.f23.ntmps, results := Proofs.Tryd.f23.results.toList, body := (annot (Proofs.Tryd.f23.body.getD .skip) [[3], [3, 13, 14, 15], [3], [3, 13, 14, 15], [3, 13, 14, 15], [3, 13, 14, 15], [3, 4, 13, 14, 15, 20, 21, 22], [3, 13, 14, 15], [3, 4, 13, 14, 15, 20, 21, 22], [3, 4, 13, 14, 15, 20, 21, 22], [3], [3, 38, 39, 40], [3], [3, 38, 39, 40], [3, 38, 39, 40]]).1, muts := false }
/-- eggbox/graph.above -/
noncomputable def a24 : AFunc := { nt := Proofs.Tryd.f24.ntmps, results := Proofs.Tryd.f24.results.toList, body := (annot (Proofs.Tryd.f24.body.getD .skip) [[6], [0, 3, 4, 6, 20, 21], [6], [0, 3, 4, 6, 20, 21], [0, 3, 4, 6, 20, 21], [0, 3, 4, 6, 20, 21], [0, 3, 4, 6, 7, 20, 21, 43, 44], [0, 3, 4, 6, 20, 21], [0, 3, 4, 6, 7, 20, 21, 43, 44], [0, 3, 4, 6, 7, 20, 21, 43, 44], [0, 3, 4, 6, 7, 20, 21, 43, 44]]).1, muts := false }
/-- eggbox/graph.Depth$1 -/
noncomputable def a25 : AFunc := { nt := Proofs.Tryd.f25.ntmps, results := Proofs.Tryd.f25.results.toList, body := (annot (Proofs.Tryd.f25.body.getD .skip) [[0, 1], [0, 1, 6], [0, 1, 3, 6, 18, 19, 20], [0, 1, 6], [0, 1, 3, 6, 18, 19, 20], [0, 1, 3, 6, 18, 19, 20], [0, 1, 3, 6, 18, 19, 20]]).1, muts := true }
/-- eggbox/bits.List -/
noncomputable def a26 : AFunc := { nt := Proofs.Tryd.f26.ntmps, results := Proofs.Tryd.f26.results.toList, body := (annot (Proofs.Tryd.f26.body.getD .skip) []).1, muts := false }
/-- eggbox/eggboxref11.Check -/
noncomputable def a27 : AFunc := { nt := Proofs.Tryd.f27.ntmps, results := Proofs.Tryd.f27.results.toList, body := (annot (Proofs.Tryd.f27.body.getD .skip) [[0, 2], [2], [0, 3], [2], [0, 3], [0, 2, 3], [0, 2, 3], [0, 3, 4], [0, 2, 3], [0, 3, 4], [0, 2, 3, 4], [0, 2, 3, 4]]).1, muts := false }
/-- eggbox/eggboxref11.far -/
noncomputable def a28 : AFunc := { nt := Proofs.Tryd.f28.ntmps, results := Proofs.Tryd.f28.results.toList, body := (annot (Proofs.Tryd.f28.body.getD .skip) [[0, 1, 5], [0, 1, 5, 6], [0, 1, 5], [0, 1, 5, 6], [0, 1, 5, 6], [5], [0, 5, 7, 8], [5], [0, 5, 7, 8], [0, 5, 7, 8], [0, 5, 7, 8], [0, 5, 7, 8, 9, 10], [0, 5, 7, 8], [0, 5, 7, 8, 9, 10], [0, 5, 7, 8, 9, 10], [0, 5, 7, 8, 9, 10]]).1, muts := false }
/-- eggbox/eggboxref11.turned -/
noncomputable def a29 : AFunc := { nt := Proofs.Tryd.f29.ntmps, results := Proofs.Tryd.f29.results.toList, body := (annot (Proofs.Tryd.f29.body.getD .skip) [[3], [0, 3, 4], [3], [0, 3, 4], [0, 3, 4], [0, 3, 4], [0, 3, 4, 5], [0, 3, 4], [0, 3, 4, 5], [0, 3, 4, 5]]).1, muts := false }
/-- eggbox/eggboxref11.Above -/
noncomputable def a30 : AFunc := { nt := Proofs.Tryd.f30.ntmps, results := Proofs.Tryd.f30.results.toList, body := (annot (Proofs.Tryd.f30.body.getD .skip) [[0, 2, 3], [8], [0, 5, 6, 8, 9], [8], [0, 5, 6, 8, 9], [0, 5, 6, 8, 9], [0, 5, 6, 8, 9], [0, 5, 6, 8, 9, 10], [0, 5, 6, 8, 9], [0, 5, 6, 8, 9, 10], [0, 5, 6, 8, 9, 10], [0, 5, 6, 8, 9, 10]]).1, muts := false }
/-- eggbox/eggboxref11.Chain -/
noncomputable def a31 : AFunc := { nt := Proofs.Tryd.f31.ntmps, results := Proofs.Tryd.f31.results.toList, body := (annot (Proofs.Tryd.f31.body.getD .skip) [[5], [0, 3, 4, 5, 6], [5], [0, 3, 4, 5, 6], [0, 3, 4, 5, 6], [0, 3, 4, 5, 6], [0, 3, 4, 5, 6, 7], [0, 3, 4, 5, 6], [0, 3, 4, 5, 6, 7], [0, 3, 4, 5, 6, 7], [0, 3, 4, 5, 6, 7], [0, 3, 4, 5, 6, 7, 8], [0, 3, 4, 5, 6, 7], [0, 3, 4, 5, 6, 7, 8], [0, 3, 4, 5, 6, 7, 8], [0, 3, 4, 5, 6, 7, 8]]).1, muts := false }
/-- eggbox/eggboxlaw01.StayInts -/
noncomputable def a32 : AFunc := { nt := Proofs.Tryd.f32.ntmps, results := Proofs.Tryd.f32.results.toList, body := (annot (Proofs.Tryd.f32.body.getD .skip) []).1, muts := false }
/-- eggbox/graph.numbered -/
noncomputable def a33 : AFunc := { nt := Proofs.Tryd.f33.ntmps, results := Proofs.Tryd.f33.results.toList, body := (annot (Proofs.Tryd.f33.body.getD .skip) [[6, 7], [1, 6, 7, 14, 15], [6, 7], [1, 6, 7, 14, 15], [1, 6, 7, 14, 15], [1, 6, 7, 8, 14, 15], [1, 6, 7, 8, 14, 15, 21, 22], [1, 6, 7, 8, 14, 15], [1, 6, 7, 8, 14, 15, 21, 22], [1, 6, 7, 8, 14, 15, 21, 22], [1, 6, 7, 8, 14, 15, 21, 22], [1, 6, 7, 14, 15]]).1, muts := false }
/-- eggbox/graph.whole -/
noncomputable def a34 : AFunc := { nt := Proofs.Tryd.f34.ntmps, results := Proofs.Tryd.f34.results.toList, body := (annot (Proofs.Tryd.f34.body.getD .skip) [[3], [0, 3, 6, 7], [3], [0, 3, 6, 7], [0, 3, 6, 7]]).1, muts := false }
/-- eggbox/graph.with -/
noncomputable def a35 : AFunc := { nt := Proofs.Tryd.f35.ntmps, results := Proofs.Tryd.f35.results.toList, body := (annot (Proofs.Tryd.f35.body.getD .skip) []).1, muts := false }
/-- eggbox/graph.reached -/
noncomputable def a36 : AFunc := { nt := Proofs.Tryd.f36.ntmps, results := Proofs.Tryd.f36.results.toList, body := (annot (Proofs.Tryd.f36.body.getD .skip) []).1, muts := false }
/-- slices.Sort[[]int,int] -/
noncomputable def a37 : AFunc := { nt := Proofs.Tryd.f37.ntmps, results := Proofs.Tryd.f37.results.toList, body := (annot (Proofs.Tryd.f37.body.getD .skip) []).1, muts := true }
/-- eggbox/bits.each -/
noncomputable def a38 : AFunc := { nt := Proofs.Tryd.f38.ntmps, results := Proofs.Tryd.f38.results.toList, body := (annot (Proofs.Tryd.f38.body.getD .skip) [[], [1, 6, 7], [], [1, 6, 7], [1, 6, 7], [1, 6, 7], [1, 4, 5, 6, 7], [1, 6, 7], [1, 4, 5, 6, 7], [1, 4, 5, 6, 7], [1, 4, 5, 6, 7]]).1, muts := true }
/-- eggbox/bits.List$1 -/
noncomputable def a39 : AFunc := { nt := Proofs.Tryd.f39.ntmps, results := Proofs.Tryd.f39.results.toList, body := (annot (Proofs.Tryd.f39.body.getD .skip) []).1, muts := true }
/-- eggbox/eggboxref11.All -/
noncomputable def a40 : AFunc := { nt := Proofs.Tryd.f40.ntmps, results := Proofs.Tryd.f40.results.toList, body := (annot (Proofs.Tryd.f40.body.getD .skip) [[3], [0, 3, 4], [3], [0, 3, 4], [0, 3, 4]]).1, muts := false }
/-- eggbox/eggboxref11.Numbers -/
noncomputable def a41 : AFunc := { nt := Proofs.Tryd.f41.ntmps, results := Proofs.Tryd.f41.results.toList, body := (annot (Proofs.Tryd.f41.body.getD .skip) [[4, 5], [0, 4, 5, 6], [4, 5], [0, 4, 5, 6], [0, 4, 5, 6], [0, 4, 5, 6, 7], [0, 4, 5, 6, 7, 8], [0, 4, 5, 6, 7], [0, 4, 5, 6, 7, 8], [0, 4, 5, 6, 7, 8], [0, 4, 5, 6, 7, 8], [0, 4, 5, 6, 7]]).1, muts := false }
/-- eggbox/eggboxref11.With -/
noncomputable def a42 : AFunc := { nt := Proofs.Tryd.f42.ntmps, results := Proofs.Tryd.f42.results.toList, body := (annot (Proofs.Tryd.f42.body.getD .skip) []).1, muts := false }
/-- eggbox/bits.With -/
noncomputable def a43 : AFunc := { nt := Proofs.Tryd.f43.ntmps, results := Proofs.Tryd.f43.results.toList, body := (annot (Proofs.Tryd.f43.body.getD .skip) [[1, 2, 4, 5]]).1, muts := false }
/-- eggbox/graph.reached$1 -/
noncomputable def a44 : AFunc := { nt := Proofs.Tryd.f44.ntmps, results := Proofs.Tryd.f44.results.toList, body := (annot (Proofs.Tryd.f44.body.getD .skip) [[], [2, 3, 10, 11, 12], [], [2, 3, 10, 11, 12], [2, 3, 10, 11, 12], [2, 3, 10, 11, 12]]).1, muts := true }
/-- slices.pdqsortOrdered[int] -/
noncomputable def a45 : AFunc := { nt := Proofs.Tryd.f45.ntmps, results := Proofs.Tryd.f45.results.toList, body := (annot (Proofs.Tryd.f45.body.getD .skip) [[], [0, 1, 2, 3, 8, 9], [], [0, 1, 2, 3, 8, 9], [0, 1, 2, 3, 8, 9, 10], [0, 1, 2, 3, 8, 9, 10], [0, 1, 2, 3, 8, 9, 10], [0, 1, 2, 3, 8, 9, 10, 11, 12], [0, 1, 2, 3, 8, 9, 10, 11], [0, 1, 2, 3, 8, 9, 10, 11], [0, 1, 2, 3, 8, 9, 10, 11], [0, 1, 2, 3, 8, 9]]).1, muts := true }
/-- math/bits.Len -/
noncomputable def a46 : AFunc := { nt := Proofs.Tryd.f46.ntmps, results := Proofs.Tryd.f46.results.toList, body := (annot (Proofs.Tryd.f46.body.getD .skip) [[0, 2]]).1, muts := false }
/-- math/bits.TrailingZeros64 -/
noncomputable def a47 : AFunc := { nt := Proofs.Tryd.f47.ntmps, results := Proofs.Tryd.f47.results.toList, body := (annot (Proofs.Tryd.f47.body.getD .skip) [[0, 2]]).1, muts := false }
/-- eggbox/eggboxref11.reached -/
noncomputable def a48 : AFunc := { nt := Proofs.Tryd.f48.ntmps, results := Proofs.Tryd.f48.results.toList, body := (annot (Proofs.Tryd.f48.body.getD .skip) [[0, 4, 5, 6], [0, 1, 4, 5, 6, 7], [0, 4, 5, 6], [0, 1, 4, 5, 6, 7], [0, 1, 4, 5, 6, 7], [0, 1, 4, 5, 6, 7], [4, 5], [0, 4, 5, 6], [4, 5], [0, 4, 5, 6], [0, 4, 5, 6], [0, 4, 5, 6], [0, 4, 5, 6, 8, 9], [0, 4, 5, 6], [0, 4, 5, 6, 8, 9], [0, 4, 5, 6, 8, 9], [0, 4, 5, 6, 8, 9]]).1, muts := false }
/-- eggbox/bits.fits -/
noncomputable def a49 : AFunc := { nt := Proofs.Tryd.f49.ntmps, results := Proofs.Tryd.f49.results.toList, body := (annot (Proofs.Tryd.f49.body.getD .skip) []).1, muts := false }
/-- slices.insertionSortOrdered[int] -/
noncomputable def a50 : AFunc := { nt := Proofs.Tryd.f50.ntmps, results := Proofs.Tryd.f50.results.toList, body := (annot (Proofs.Tryd.f50.body.getD .skip) [[], [0, 1, 2, 6], [], [0, 1, 2, 6], [0, 1, 2, 6], [0, 1, 2, 6], [0, 1, 2, 6, 7], [0, 1, 2, 6], [0, 1, 2, 6, 7], [0, 1, 2, 6, 7]]).1, muts := true }
/-- slices.heapSortOrdered[int] -/
noncomputable def a51 : AFunc := { nt := Proofs.Tryd.f51.ntmps, results := Proofs.Tryd.f51.results.toList, body := (annot (Proofs.Tryd.f51.body.getD .skip) [[0, 6, 7, 8], [0, 6, 7, 8, 9], [0, 6, 7, 8], [0, 6, 7, 8, 9], [0, 6, 7, 8, 9], [], [0, 6, 7, 10], [], [0, 6, 7, 10], [0, 6, 7, 10]]).1, muts := true }
/-- slices.breakPatternsOrdered[int] -/
noncomputable def a52 : AFunc := { nt := Proofs.Tryd.f52.ntmps, results := Proofs.Tryd.f52.results.toList, body := (annot (Proofs.Tryd.f52.body.getD .skip) [[], [], [0, 1, 6, 7, 8, 9], [], [0, 1, 6, 7, 8, 9], [0, 1, 6, 7, 8, 9], [0, 1, 6, 7, 8, 9, 10]]).1, muts := true }
/-- slices.choosePivotOrdered[int] -/
noncomputable def a53 : AFunc := { nt := Proofs.Tryd.f53.ntmps, results := Proofs.Tryd.f53.results.toList, body := (annot (Proofs.Tryd.f53.body.getD .skip) [[9, 11], [0, 9, 10, 11, 12], [6, 7], [6, 7], [6, 7]]).1, muts := false }
/-- slices.reverseRangeOrdered[int] -/
noncomputable def a54 : AFunc := { nt := Proofs.Tryd.f54.ntmps, results := Proofs.Tryd.f54.results.toList, body := (annot (Proofs.Tryd.f54.body.getD .skip) [[], [0, 6, 7], [], [0, 6, 7], [0, 6, 7]]).1, muts := true }
/-- slices.partialInsertionSortOrdered[int] -/
noncomputable def a55 : AFunc := { nt := Proofs.Tryd.f55.ntmps, results := Proofs.Tryd.f55.results.toList, body := (annot (Proofs.Tryd.f55.body.getD .skip) [[6], [0, 1, 2, 7, 8], [6], [0, 1, 2, 7, 8], [0, 1, 2, 6, 7, 8], [0, 1, 2, 7, 8], [0, 1, 2, 7, 8], [0, 1, 2, 7, 8], [0, 1, 2, 7, 8], [0, 1, 2, 7, 8], [0, 1, 2, 6, 7, 8], [0, 1, 2, 6, 7, 8], [0, 1, 2, 7, 8], [0, 1, 2, 7, 8], [0, 1, 2, 7, 8, 9], [0, 1, 2, 7, 8], [0, 1, 2, 7, 8, 9], [0, 1, 2, 7, 8, 9], [0, 1, 2, 7, 8, 9], [0, 1, 2, 7, 8], [0, 1, 2, 7, 8], [0, 1, 2, 7, 8, 10], [0, 1, 2, 7, 8], [0, 1, 2, 7, 8, 10], [0, 1, 2, 7, 8, 10], [0, 1, 2, 7, 8, 10]]).1, muts := true }
/-- cmp.Less[int] -/
noncomputable def a56 : AFunc := { nt := Proofs.Tryd.f56.ntmps, results := Proofs.Tryd.f56.results.toList, body := (annot (Proofs.Tryd.f56.body.getD .skip) []).1, muts := false }
/-- slices.partitionEqualOrdered[int] -/
noncomputable def a57 : AFunc := { nt := Proofs.Tryd.f57.ntmps, results := Proofs.Tryd.f57.results.toList, body := (annot (Proofs.Tryd.f57.body.getD .skip) [[9], [0, 1, 9, 10], [9], [0, 1, 9, 10], [0, 1, 9, 10], [0, 1, 9, 10], [0, 1, 9, 10], [0, 1, 9, 10], [0, 1, 9, 10], [0, 1, 9, 10], [0, 1, 9, 10], [0, 1, 9, 10], [0, 1, 9, 10], [0, 1, 9, 10], [0, 1, 9, 10]]).1, muts := true }
/-- slices.partitionOrdered[int] -/
noncomputable def a58 : AFunc := { nt := Proofs.Tryd.f58.ntmps, results := Proofs.Tryd.f58.results.toList, body := (annot (Proofs.Tryd.f58.body.getD .skip) [[0, 1, 10, 11], [0, 1, 10, 11], [0, 1, 10, 11], [0, 1, 10, 11], [0, 1, 10, 11], [0, 1, 10, 11], [0, 1, 10, 11], [0, 1, 10, 11], [0, 1, 10, 11], [0, 1, 10, 11], [0, 1, 8, 9, 10, 11], [0, 1, 11], [0, 1, 10, 11], [0, 1, 11], [0, 1, 10, 11], [0, 1, 10, 11], [0, 1, 10, 11], [0, 1, 10, 11], [0, 1, 10, 11], [0, 1, 10, 11], [0, 1, 10, 11], [0, 1, 10, 11], [0, 1, 10, 11], [0, 1, 10, 11], [0, 1, 10, 11], [0, 1, 10, 11]]).1, muts := true }
/-- math/bits.Len32 -/
noncomputable def a59 : AFunc := { nt := Proofs.Tryd.f59.ntmps, results := Proofs.Tryd.f59.results.toList, body := (annot (Proofs.Tryd.f59.body.getD .skip) [[0, 2], [0, 2]]).1, muts := false }
/-- math/bits.Len64 -/
noncomputable def a60 : AFunc := { nt := Proofs.Tryd.f60.ntmps, results := Proofs.Tryd.f60.results.toList, body := (annot (Proofs.Tryd.f60.body.getD .skip) [[0, 2], [0, 2], [0, 2]]).1, muts := false }
/-- slices.siftDownOrdered[int] -/
noncomputable def a61 : AFunc := { nt := Proofs.Tryd.f61.ntmps, results := Proofs.Tryd.f61.results.toList, body := (annot (Proofs.Tryd.f61.body.getD .skip) [[], [0, 2, 3, 8], [], [0, 2, 3, 8], [0, 2, 3, 8, 9], [0, 2, 3, 8, 9], [0, 2, 3, 8, 9]]).1, muts := true }
/-- slices.nextPowerOfTwo -/
noncomputable def a62 : AFunc := { nt := Proofs.Tryd.f62.ntmps, results := Proofs.Tryd.f62.results.toList, body := (annot (Proofs.Tryd.f62.body.getD .skip) []).1, muts := false }
/-- (*slices.xorshift).Next -/
noncomputable def a63 : AFunc := { nt := Proofs.Tryd.f63.ntmps, results := Proofs.Tryd.f63.results.toList, body := (annot (Proofs.Tryd.f63.body.getD .skip) []).1, muts := true }
/-- slices.medianAdjacentOrdered[int] -/
noncomputable def a64 : AFunc := { nt := Proofs.Tryd.f64.ntmps, results := Proofs.Tryd.f64.results.toList, body := (annot (Proofs.Tryd.f64.body.getD .skip) []).1, muts := false }
/-- slices.medianOrdered[int] -/
noncomputable def a65 : AFunc := { nt := Proofs.Tryd.f65.ntmps, results := Proofs.Tryd.f65.results.toList, body := (annot (Proofs.Tryd.f65.body.getD .skip) []).1, muts := false }
/-- cmp.isNaN[int] -/
noncomputable def a66 : AFunc := { nt := Proofs.Tryd.f66.ntmps, results := Proofs.Tryd.f66.results.toList, body := (annot (Proofs.Tryd.f66.body.getD .skip) []).1, muts := false }
/-- slices.order2Ordered[int] -/
noncomputable def a67 : AFunc := { nt := Proofs.Tryd.f67.ntmps, results := Proofs.Tryd.f67.results.toList, body := (annot (Proofs.Tryd.f67.body.getD .skip) [[1, 2, 8, 9]]).1, muts := false }
noncomputable def tab : List (Nat × AFunc) := [(3, a3), (4, a4), (5, a5), (6, a6), (7, a7), (8, a8), (9, a9), (10, a10), (11, a11), (12, a12), (13, a13), (14, a14), (15, a15), (16, a16), (17, a17), (18, a18), (19, a19), (20, a20), (21, a21), (22, a22), (23, a23), (24, a24), (25, a25), (26, a26), (27, a27), (28, a28), (29, a29), (30, a30), (31, a31), (32, a32), (33, a33), (34, a34), (35, a35), (36, a36), (37, a37), (38, a38), (39, a39), (40, a40), (41, a41), (42, a42), (43, a43), (44, a44), (45, a45), (46, a46), (47, a47), (48, a48), (49, a49), (50, a50), (51, a51), (52, a52), (53, a53), (54, a54), (55, a55), (56, a56), (57, a57), (58, a58), (59, a59), (60, a60), (61, a61), (62, a62), (63, a63), (64, a64), (65, a65), (66, a66), (67, a67)]
def ext : FuncId → Option (List Value → Option Value) := fun _ => none
noncomputable def cfg : Cfg := { P := Proofs.Tryd.prog, ext := ext, code := fun f => tab.lookup f }
noncomputable def cfg0 : Cfg := { P := Proofs.Tryd.prog, ext := ext, code := fun f => ((14, b14) :: tab).lookup f }
end Go.Proofs.YtkemihfaohkoeaaDoor.Am11d
namespace Go.Proofs.YtkemihfaohkoeaaDoor.Am
open Go Go.RowKit

/-- What lies below stays: the relation stays. -/
theorem Sim.frame {P : Program} {w0 w w' : World} {μ : PMap} {H : AHeap} (h : Sim P w0 μ H w) (hb : Below w.heap.size w w') : Sim P w0 μ H w' := by
  have hs := h.below.size
  refine ⟨⟨hb.os.trans h.below.os, hb.tape.trans h.below.tape, hb.output.trans h.below.output, Nat.le_trans hs hb.size, fun k hk => (hb.block k (by omega)).trans (h.below.block k hk)⟩, fun id L m e => ?_, h.nohole, h.ver, fun id o ho => ?_, h.sep, h.gl⟩
  · obtain ⟨a, b⟩ := h.dom id L m e
    exact ⟨a, Nat.lt_of_lt_of_le b hb.size⟩
  · exact (h.ok id o ho).keep (Sub.refl μ) (fun _ => rfl) fun L m _ hm => hb.block _ (h.dom id L m hm).2

/-- A program without such a variable. -/
theorem GL.no {P : Program} (h : (P.globals.toList.all fun x => decide (x.name ≠ "math/bits.deBruijn64tab")) = true) (w : World) : GL P w := fun g cs hk => by
  unfold known at hk
  split at hk
  · rename_i x hx
    split at hk
    · rename_i hn
      have := List.all_eq_true.1 h x (by
        rw [← Array.getElem?_toList] at hx
        exact List.mem_of_getElem? hx)
      exact absurd hn (of_decide_eq_true this)
    · cases hk
  · cases hk
theorem Sim.empty (P : Program) (w : World) (hg : GL P w) : Sim P w (fun _ _ => none) [] w :=
  ⟨⟨rfl, rfl, rfl, Nat.le_refl _, fun _ _ => rfl⟩, fun _ _ _ h => by simp at h, fun _ _ _ h => by simp at h, fun _ _ _ _ _ _ _ h => by simp at h, fun _ _ h => by simp at h, fun _ _ _ _ _ _ _ _ _ h => by simp at h, hg⟩

/-- A closed function that was run once is known. -/
theorem memo_of {C : Cfg} (hC : CodeOK C) (hext : ExtSound C.P C.ext) {f : FuncId} {v : Value} {H1 : AHeap} (h : callInf C f [] 0 [] = some (v, H1)) (hv : plain1 v = true) (w0 : World) (H : AHeap) (μ : PMap) (w : World) (hS : Sim C.P w0 μ H w) :
    Calls C.P f #[] w fun e w' => ∃ v' μ', e = .returned v' ∧ Sub μ μ' ∧ VRel μ' v v' ∧ Sim C.P w0 μ' H w' := by
  refine (callInf_sound hC hext (w0 := w) (args' := []) h (Sim.empty C.P w (hS.gl.below hS.below)) (LRel.nil _)).mono fun e w' hh => ?_
  obtain ⟨v', μ', h1, _, h3, h4⟩ := hh
  refine ⟨v', μ, h1, Sub.refl μ, ?_, hS.frame h4.below⟩
  rw [VRel.plain1_inv hv h3]
  exact VRel.of_plain1 hv
end Go.Proofs.YtkemihfaohkoeaaDoor.Am
