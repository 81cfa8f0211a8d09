/- A part of the proof of a given statement: P23_42, P23_19, P23_20, Sp23_C42, P23_33, Sp23_C33, Sp23_C20, AmStrc, P23_5, Law23_5, P23_9, Law23_9. No condition. -/
import Derived.Test.YthjkodbinkiifaaPart14
set_option linter.unusedVariables false
open Go Go.Proofs.Ythjkodbinkiifaa.Am
namespace Go.Proofs.Ythjkodbinkiifaa.Am23
section
variable {x0a x16a x20a z7 x64a x70a x7 x8 x34a x55 : Int}
variable {x0ba x0ca x16ba x16ca x17aa x17ba x20ba x20ca x21a z4a x64ba x64ca x66aa x66ba x70ba x70ca x4a x6a x34ba x34ca x36aa x36ba : Option Addr}
variable {x0bn x0bc x0cn x0cc prot x16bn x16bc x16cn x16cc x17an x17ac x17bn x17bc x20bn x20bc x20cn x20cc x21n x21c z1p z1o z1l z3p z3o z3l z4n z4c x64bn x64bc x64cn x64cc x66an x66ac x66bn x66bc x70bn x70bc x70cn x70cc x77p x77o x77l x81p x81o x81l x1p x1o x1l x3p x3o x3l x4n x4c x6n x6c x30p x30o x30l x34bn x34bc x34cn x34cc x36an x36ac x36bn x36bc x41p x41o x41l x49p x49o x49l x53p x53o x53l : Nat}
variable {H H1 H2 H3 H4 H5 H0 : AHeap}
variable {wa wb wc x72a x78 x82 x50 x54 : ByteArray}
variable {x72b x31 x42 : Bool}
theorem f42_F_0 (h1 : [vI x0a, vS x0ba x0bn x0bc, vS x0ca x0cn x0cc].all isCell = true) (h2 : getCells (H ++ [vo [vI x0a, vS x0ba x0bn x0bc, vS x0ca x0cn x0cc] 25] ++ [vo [vE, vE, vE] 29]) H.length 3 0 3 = some [vI x16a, vS x16ba x16bn x16bc, vS x16ca x16cn x16cc]) (h3 : cI 66 [Value.agg #[vI x16a, vS x16ba x16bn x16bc, vS x16ca x16cn x16cc], vI 0, Value.bool false] H.length (H ++ [vo [vI x0a, vS x0ba x0bn x0bc, vS x0ca x0cn x0cc] 25] ++ [vo [vE, vE, vE] 29]) = some (Value.tuple #[vS x17aa x17an x17ac, vS x17ba x17bn x17bc], H1)) (h4 : getCells H1 H.length 3 0 3 = some [vI x20a, vS x20ba x20bn x20bc, vS x20ca x20cn x20cc]) (h5 : cI 59 [Value.agg #[vI x20a, vS x20ba x20bn x20bc, vS x20ca x20cn x20cc]] H.length H1 = some (vS x21a x21n x21c, H2)) (h6 : lI a42 0 prot H ([vP H.length 0 3, Value.pointer (some ⟨List.length (H ++ [vo [vI x0a, vS x0ba x0bn x0bc, vS x0ca x0cn x0cc] 25]), 0, some 3⟩), vS x17aa x17an x17ac, vS x21a x21n x21c, vI (-1), vI 0], H2) = some (Ex.exit 0, [vP z1p z1o z1l, vP z3p z3o z3l, vS z4a z4n z4c, vI z7], H3)) (h7 : z7 < 0) (h8 : 3 = 3) (h9 : setCells H3 H.length z3p z3l z3o [vE, vE, vE] = some H4) (h10 : getCells H4 z3p z3l z3o 3 = some [Value.string wa, Value.string wb, Value.string wc]) : callInf cfg 42 [.agg #[.int .i64 x0a, .slice x0ba x0bn x0bc, .slice x0ca x0cn x0cc]] prot H = some (Value.tuple { toList := [Value.bool true, Value.agg { toList := [Value.string wa, Value.string wb, Value.string wc] }] }, H) :=
 fn_of2 a42 [.e, .e, .v (.agg #[vI x16a, vS x16ba x16bn x16bc, vS x16ca x16cn x16cc]), .r (.tuple #[vS x17aa x17an x17ac, vS x17ba x17bn x17bc]) H1, .v (.agg #[vI x20a, vS x20ba x20bn x20bc, vS x20ca x20cn x20cc]), .r (vS x21a x21n x21c) H2, .lo (.exit 0, [vP z1p z1o z1l, vP z3p z3o z3l, vS z4a z4n z4c, vI z7], H3), .e, .b true, .e, .h H4, .v (.agg #[.string wa, .string wb, .string wc])] (ai h1 (ai h2 (ai h3 (ai h4 (ai h5 (ai h6 (ai (decide_eq_true h7) (ai h8 (ai h9 (ai h10 (Eq.refl ((Value.tuple #[Value.bool true, Value.agg #[Value.string wa, Value.string wb, Value.string wc]], H) : Value × AHeap)))))))))))) (by kernel_rfl) rfl
theorem f42_F_1 (h1 : [vI x0a, vS x0ba x0bn x0bc, vS x0ca x0cn x0cc].all isCell = true) (h2 : getCells (H ++ [vo [vI x0a, vS x0ba x0bn x0bc, vS x0ca x0cn x0cc] 25] ++ [vo [vE, vE, vE] 29]) H.length 3 0 3 = some [vI x16a, vS x16ba x16bn x16bc, vS x16ca x16cn x16cc]) (h3 : cI 66 [Value.agg #[vI x16a, vS x16ba x16bn x16bc, vS x16ca x16cn x16cc], vI 0, Value.bool false] H.length (H ++ [vo [vI x0a, vS x0ba x0bn x0bc, vS x0ca x0cn x0cc] 25] ++ [vo [vE, vE, vE] 29]) = some (Value.tuple #[vS x17aa x17an x17ac, vS x17ba x17bn x17bc], H1)) (h4 : getCells H1 H.length 3 0 3 = some [vI x20a, vS x20ba x20bn x20bc, vS x20ca x20cn x20cc]) (h5 : cI 59 [Value.agg #[vI x20a, vS x20ba x20bn x20bc, vS x20ca x20cn x20cc]] H.length H1 = some (vS x21a x21n x21c, H2)) (h6 : lI a42 0 prot H ([vP H.length 0 3, Value.pointer (some ⟨List.length (H ++ [vo [vI x0a, vS x0ba x0bn x0bc, vS x0ca x0cn x0cc] 25]), 0, some 3⟩), vS x17aa x17an x17ac, vS x21a x21n x21c, vI (-1), vI 0], H2) = some (Ex.exit 0, [vP z1p z1o z1l, vP z3p z3o z3l, vS z4a z4n z4c, vI z7], H3)) (h7 : ¬(z7 < 0)) (h8 : getCells H3 z1p z1l z1o 3 = some [vI x64a, vS x64ba x64bn x64bc, vS x64ca x64cn x64cc]) (h9 : cI 66 [Value.agg #[vI x64a, vS x64ba x64bn x64bc, vS x64ca x64cn x64cc], vI z7, Value.bool true] H.length H3 = some (Value.tuple #[vS x66aa x66an x66ac, vS x66ba x66bn x66bc], H4)) (h10 : getCells H4 z1p z1l z1o 3 = some [vI x70a, vS x70ba x70bn x70bc, vS x70ca x70cn x70cc]) (h11 : cI 67 [Value.agg #[vI x70a, vS x70ba x70bn x70bc, vS x70ca x70cn x70cc], vI z7] H.length H4 = some (Value.tuple #[Value.string x72a, Value.bool x72b], H4)) (h12 : aX 43 (vS z4a z4n z4c) (vI z7) = some (vP x77p x77o x77l)) (h13 : getCells H4 x77p x77l x77o 1 = some [Value.string x78]) (h14 : aX 43 (vS x66aa x66an x66ac) (vI z7) = some (vP x81p x81o x81l)) (h15 : getCells H4 x81p x81l x81o 1 = some [Value.string x82]) (h16 : 3 = 3) (h17 : setCells H4 H.length z3p z3l z3o [Value.string x78, Value.string x82, Value.string x72a] = some H5) (h18 : getCells H5 z3p z3l z3o 3 = some [Value.string wa, Value.string wb, Value.string wc]) : callInf cfg 42 [.agg #[.int .i64 x0a, .slice x0ba x0bn x0bc, .slice x0ca x0cn x0cc]] prot H = some (Value.tuple { toList := [Value.bool false, Value.agg { toList := [Value.string wa, Value.string wb, Value.string wc] }] }, H) :=
 fn_of2 a42 [.e, .e, .v (.agg #[vI x16a, vS x16ba x16bn x16bc, vS x16ca x16cn x16cc]), .r (.tuple #[vS x17aa x17an x17ac, vS x17ba x17bn x17bc]) H1, .v (.agg #[vI x20a, vS x20ba x20bn x20bc, vS x20ca x20cn x20cc]), .r (vS x21a x21n x21c) H2, .lo (.exit 0, [vP z1p z1o z1l, vP z3p z3o z3l, vS z4a z4n z4c, vI z7], H3), .e, .b false, .v (.agg #[vI x64a, vS x64ba x64bn x64bc, vS x64ca x64cn x64cc]), .r (.tuple #[vS x66aa x66an x66ac, vS x66ba x66bn x66bc]) H4, .v (.agg #[vI x70a, vS x70ba x70bn x70bc, vS x70ca x70cn x70cc]), .v (.tuple #[.string x72a, .bool x72b]), .v (vP x77p x77o x77l), .v (.string x78), .v (vP x81p x81o x81l), .v (.string x82), .e, .h H5, .v (.agg #[.string wa, .string wb, .string wc])] (ai h1 (ai h2 (ai h3 (ai h4 (ai h5 (ai h6 (ai (decide_eq_false h7) (ai h8 (ai h9 (ai h10 (ai h11 (ai h12 (ai h13 (ai h14 (ai h15 (ai h16 (ai h17 (ai h18 (Eq.refl ((Value.tuple #[Value.bool false, Value.agg #[Value.string wa, Value.string wb, Value.string wc]], H) : Value × AHeap)))))))))))))))))))) (by kernel_rfl) rfl
theorem f42_L0_0 (h1 : x8 < (↑x6n : Int)) (h2 : aX 23 (vS x6a x6n x6c) (vI x8) = some (vP x30p x30o x30l)) (h3 : getCells H x30p x30l x30o 1 = some [Value.bool x31]) (h4 : (!x31) = false) (h5 : getCells H x1p x1l x1o 3 = some [vI x34a, vS x34ba x34bn x34bc, vS x34ca x34cn x34cc]) (h6 : cI 66 [Value.agg #[vI x34a, vS x34ba x34bn x34bc, vS x34ca x34cn x34cc], vI x8, Value.bool true] H0.length H = some (Value.tuple #[vS x36aa x36an x36ac, vS x36ba x36bn x36bc], H2)) (h7 : aX 23 (vS x36ba x36bn x36bc) (vI x8) = some (vP x41p x41o x41l)) (h8 : getCells H2 x41p x41l x41o 1 = some [Value.bool x42]) (h9 : x42 = true) (h10 : x7 < 0) (h11 : Fit .i64 (x8 + 1)) : lpOf cfg a42 0 prot H0 ([.pointer (some ⟨x1p, x1o, some x1l⟩), .pointer (some ⟨x3p, x3o, some x3l⟩), .slice x4a x4n x4c, .slice x6a x6n x6c, .int .i64 x7, .int .i64 x8], H) = some (Sum.inl ([Value.pointer (some ⟨x1p, x1o, some x1l⟩), Value.pointer (some ⟨x3p, x3o, some x3l⟩), Value.slice x4a x4n x4c, Value.slice x6a x6n x6c, Value.int .i64 x8, Value.int .i64 (x8 + 1)], H2)) :=
 lp_of2 [.e, .e, .b true, .v (vP x30p x30o x30l), .v (.bool x31), .e, .b false, .v (.agg #[vI x34a, vS x34ba x34bn x34bc, vS x34ca x34cn x34cc]), .r (.tuple #[vS x36aa x36an x36ac, vS x36ba x36bn x36bc]) H2, .v (vP x41p x41o x41l), .v (.bool x42), .b true, .b true, .e, .b true, .b true, .b true, .b true, .b true, .b true, .b true, .b true, .b true, .b true, .b true, .b true, .b true, .b true, .b true, .e] (ai (decide_eq_true h1) (ai h2 (ai h3 (ai h4 (ai h5 (ai h6 (ai h7 (ai h8 (ai h9 (ai h9 (ai h9 (ai (decide_eq_true h10) (ai (decide_eq_true h10) (ai (decide_eq_true h10) (ai (decide_eq_true h10) (ai (decide_eq_true h10) (ai (decide_eq_true h10) (ai (decide_eq_true h10) (ai (decide_eq_true h10) (ai (decide_eq_true h10) (ai (decide_eq_true h10) (ai h9 (ai (decide_eq_true h10) (ai h9 (ai (Eq.refl true) (ai h11 (Eq.refl (Sum.inl ([vP x1p x1o x1l, vP x3p x3o x3l, vS x4a x4n x4c, vS x6a x6n x6c, vI x8, vI (x8 + 1)], H2) : LS ⊕ LO)))))))))))))))))))))))))))) (by kernel_rfl)
theorem f42_L0_1 (h1 : x8 < (↑x6n : Int)) (h2 : aX 23 (vS x6a x6n x6c) (vI x8) = some (vP x30p x30o x30l)) (h3 : getCells H x30p x30l x30o 1 = some [Value.bool x31]) (h4 : (!x31) = false) (h5 : getCells H x1p x1l x1o 3 = some [vI x34a, vS x34ba x34bn x34bc, vS x34ca x34cn x34cc]) (h6 : cI 66 [Value.agg #[vI x34a, vS x34ba x34bn x34bc, vS x34ca x34cn x34cc], vI x8, Value.bool true] H0.length H = some (Value.tuple #[vS x36aa x36an x36ac, vS x36ba x36bn x36bc], H2)) (h7 : aX 23 (vS x36ba x36bn x36bc) (vI x8) = some (vP x41p x41o x41l)) (h8 : getCells H2 x41p x41l x41o 1 = some [Value.bool x42]) (h9 : x42 = true) (h10 : ¬(x7 < 0)) (h11 : aX 43 (vS x4a x4n x4c) (vI x8) = some (vP x49p x49o x49l)) (h12 : getCells H2 x49p x49l x49o 1 = some [Value.string x50]) (h13 : aX 43 (vS x4a x4n x4c) (vI x7) = some (vP x53p x53o x53l)) (h14 : getCells H2 x53p x53l x53o 1 = some [Value.string x54]) (h15 : cI 28 [Value.string x50, Value.string x54] H0.length H2 = some (vI x55, H2)) (h16 : x55 < 0) (h17 : Fit .i64 (x8 + 1)) : lpOf cfg a42 0 prot H0 ([.pointer (some ⟨x1p, x1o, some x1l⟩), .pointer (some ⟨x3p, x3o, some x3l⟩), .slice x4a x4n x4c, .slice x6a x6n x6c, .int .i64 x7, .int .i64 x8], H) = some (Sum.inl ([Value.pointer (some ⟨x1p, x1o, some x1l⟩), Value.pointer (some ⟨x3p, x3o, some x3l⟩), Value.slice x4a x4n x4c, Value.slice x6a x6n x6c, Value.int .i64 x8, Value.int .i64 (x8 + 1)], H2)) :=
 lp_of2 [.e, .e, .b true, .v (vP x30p x30o x30l), .v (.bool x31), .e, .b false, .v (.agg #[vI x34a, vS x34ba x34bn x34bc, vS x34ca x34cn x34cc]), .r (.tuple #[vS x36aa x36an x36ac, vS x36ba x36bn x36bc]) H2, .v (vP x41p x41o x41l), .v (.bool x42), .b true, .b true, .e, .b true, .b false, .b false, .b false, .v (vP x49p x49o x49l), .b false, .v (.string x50), .b false, .b false, .b false, .v (vP x53p x53o x53l), .b false, .v (.string x54), .b false, .v (vI x55), .b false, .e, .b true, .b false, .b true, .b true, .e] (ai (decide_eq_true h1) (ai h2 (ai h3 (ai h4 (ai h5 (ai h6 (ai h7 (ai h8 (ai h9 (ai h9 (ai h9 (ai (decide_eq_false h10) (ai (decide_eq_false h10) (ai (decide_eq_false h10) (ai h11 (ai (decide_eq_false h10) (ai h12 (ai (decide_eq_false h10) (ai (decide_eq_false h10) (ai (decide_eq_false h10) (ai h13 (ai (decide_eq_false h10) (ai h14 (ai (decide_eq_false h10) (ai h15 (ai (decide_eq_false h10) (ai h9 (ai (decide_eq_false h10) (ai h9 (ai (decide_eq_true h16) (ai h17 (Eq.refl (Sum.inl ([vP x1p x1o x1l, vP x3p x3o x3l, vS x4a x4n x4c, vS x6a x6n x6c, vI x8, vI (x8 + 1)], H2) : LS ⊕ LO))))))))))))))))))))))))))))))))) (by kernel_rfl)
theorem f42_L0_2 (h1 : x8 < (↑x6n : Int)) (h2 : aX 23 (vS x6a x6n x6c) (vI x8) = some (vP x30p x30o x30l)) (h3 : getCells H x30p x30l x30o 1 = some [Value.bool x31]) (h4 : (!x31) = false) (h5 : getCells H x1p x1l x1o 3 = some [vI x34a, vS x34ba x34bn x34bc, vS x34ca x34cn x34cc]) (h6 : cI 66 [Value.agg #[vI x34a, vS x34ba x34bn x34bc, vS x34ca x34cn x34cc], vI x8, Value.bool true] H0.length H = some (Value.tuple #[vS x36aa x36an x36ac, vS x36ba x36bn x36bc], H2)) (h7 : aX 23 (vS x36ba x36bn x36bc) (vI x8) = some (vP x41p x41o x41l)) (h8 : getCells H2 x41p x41l x41o 1 = some [Value.bool x42]) (h9 : x42 = true) (h10 : ¬(x7 < 0)) (h11 : aX 43 (vS x4a x4n x4c) (vI x8) = some (vP x49p x49o x49l)) (h12 : getCells H2 x49p x49l x49o 1 = some [Value.string x50]) (h13 : aX 43 (vS x4a x4n x4c) (vI x7) = some (vP x53p x53o x53l)) (h14 : getCells H2 x53p x53l x53o 1 = some [Value.string x54]) (h15 : cI 28 [Value.string x50, Value.string x54] H0.length H2 = some (vI x55, H2)) (h16 : ¬(x55 < 0)) (h17 : Fit .i64 (x8 + 1)) : lpOf cfg a42 0 prot H0 ([.pointer (some ⟨x1p, x1o, some x1l⟩), .pointer (some ⟨x3p, x3o, some x3l⟩), .slice x4a x4n x4c, .slice x6a x6n x6c, .int .i64 x7, .int .i64 x8], H) = some (Sum.inl ([Value.pointer (some ⟨x1p, x1o, some x1l⟩), Value.pointer (some ⟨x3p, x3o, some x3l⟩), Value.slice x4a x4n x4c, Value.slice x6a x6n x6c, Value.int .i64 x7, Value.int .i64 (x8 + 1)], H2)) :=
 lp_of2 [.e, .e, .b true, .v (vP x30p x30o x30l), .v (.bool x31), .e, .b false, .v (.agg #[vI x34a, vS x34ba x34bn x34bc, vS x34ca x34cn x34cc]), .r (.tuple #[vS x36aa x36an x36ac, vS x36ba x36bn x36bc]) H2, .v (vP x41p x41o x41l), .v (.bool x42), .b true, .b true, .e, .b true, .b false, .b false, .b false, .v (vP x49p x49o x49l), .b false, .v (.string x50), .b false, .b false, .b false, .v (vP x53p x53o x53l), .b false, .v (.string x54), .b false, .v (vI x55), .b false, .e, .b true, .b false, .b true, .b false, .e] (ai (decide_eq_true h1) (ai h2 (ai h3 (ai h4 (ai h5 (ai h6 (ai h7 (ai h8 (ai h9 (ai h9 (ai h9 (ai (decide_eq_false h10) (ai (decide_eq_false h10) (ai (decide_eq_false h10) (ai h11 (ai (decide_eq_false h10) (ai h12 (ai (decide_eq_false h10) (ai (decide_eq_false h10) (ai (decide_eq_false h10) (ai h13 (ai (decide_eq_false h10) (ai h14 (ai (decide_eq_false h10) (ai h15 (ai (decide_eq_false h10) (ai h9 (ai (decide_eq_false h10) (ai h9 (ai (decide_eq_false h16) (ai h17 (Eq.refl (Sum.inl ([vP x1p x1o x1l, vP x3p x3o x3l, vS x4a x4n x4c, vS x6a x6n x6c, vI x7, vI (x8 + 1)], H2) : LS ⊕ LO))))))))))))))))))))))))))))))))) (by kernel_rfl)
theorem f42_L0_3 (h1 : x8 < (↑x6n : Int)) (h2 : aX 23 (vS x6a x6n x6c) (vI x8) = some (vP x30p x30o x30l)) (h3 : getCells H x30p x30l x30o 1 = some [Value.bool x31]) (h4 : (!x31) = false) (h5 : getCells H x1p x1l x1o 3 = some [vI x34a, vS x34ba x34bn x34bc, vS x34ca x34cn x34cc]) (h6 : cI 66 [Value.agg #[vI x34a, vS x34ba x34bn x34bc, vS x34ca x34cn x34cc], vI x8, Value.bool true] H0.length H = some (Value.tuple #[vS x36aa x36an x36ac, vS x36ba x36bn x36bc], H2)) (h7 : aX 23 (vS x36ba x36bn x36bc) (vI x8) = some (vP x41p x41o x41l)) (h8 : getCells H2 x41p x41l x41o 1 = some [Value.bool x42]) (h9 : x42 = false) (h10 : Fit .i64 (x8 + 1)) : lpOf cfg a42 0 prot H0 ([.pointer (some ⟨x1p, x1o, some x1l⟩), .pointer (some ⟨x3p, x3o, some x3l⟩), .slice x4a x4n x4c, .slice x6a x6n x6c, .int .i64 x7, .int .i64 x8], H) = some (Sum.inl ([Value.pointer (some ⟨x1p, x1o, some x1l⟩), Value.pointer (some ⟨x3p, x3o, some x3l⟩), Value.slice x4a x4n x4c, Value.slice x6a x6n x6c, Value.int .i64 x7, Value.int .i64 (x8 + 1)], H2)) :=
 lp_of2 [.e, .e, .b true, .v (vP x30p x30o x30l), .v (.bool x31), .e, .b false, .v (.agg #[vI x34a, vS x34ba x34bn x34bc, vS x34ca x34cn x34cc]), .r (.tuple #[vS x36aa x36an x36ac, vS x36ba x36bn x36bc]) H2, .v (vP x41p x41o x41l), .v (.bool x42), .b false, .b false, .b false, .b false, .b false, .b false, .e] (ai (decide_eq_true h1) (ai h2 (ai h3 (ai h4 (ai h5 (ai h6 (ai h7 (ai h8 (ai h9 (ai h9 (ai h9 (ai h9 (ai h9 (ai (Eq.refl false) (ai h10 (Eq.refl (Sum.inl ([vP x1p x1o x1l, vP x3p x3o x3l, vS x4a x4n x4c, vS x6a x6n x6c, vI x7, vI (x8 + 1)], H2) : LS ⊕ LO))))))))))))))))) (by kernel_rfl)
theorem f42_L0_4 (h1 : x8 < (↑x6n : Int)) (h2 : aX 23 (vS x6a x6n x6c) (vI x8) = some (vP x30p x30o x30l)) (h3 : getCells H x30p x30l x30o 1 = some [Value.bool x31]) (h4 : (!x31) = true) (h5 : Fit .i64 (x8 + 1)) : lpOf cfg a42 0 prot H0 ([.pointer (some ⟨x1p, x1o, some x1l⟩), .pointer (some ⟨x3p, x3o, some x3l⟩), .slice x4a x4n x4c, .slice x6a x6n x6c, .int .i64 x7, .int .i64 x8], H) = some (Sum.inl ([Value.pointer (some ⟨x1p, x1o, some x1l⟩), Value.pointer (some ⟨x3p, x3o, some x3l⟩), Value.slice x4a x4n x4c, Value.slice x6a x6n x6c, Value.int .i64 x7, Value.int .i64 (x8 + 1)], H)) :=
 lp_of2 [.e, .e, .b true, .v (vP x30p x30o x30l), .v (.bool x31), .e, .b true, .e] (ai (decide_eq_true h1) (ai h2 (ai h3 (ai h4 (ai h5 (Eq.refl (Sum.inl ([vP x1p x1o x1l, vP x3p x3o x3l, vS x4a x4n x4c, vS x6a x6n x6c, vI x7, vI (x8 + 1)], H) : LS ⊕ LO))))))) (by kernel_rfl)
theorem f42_L0_5 (h1 : ¬(x8 < (↑x6n : Int))) : lpOf cfg a42 0 prot H0 ([.pointer (some ⟨x1p, x1o, some x1l⟩), .pointer (some ⟨x3p, x3o, some x3l⟩), .slice x4a x4n x4c, .slice x6a x6n x6c, .int .i64 x7, .int .i64 x8], H) = some (Sum.inr (Ex.exit 0, [Value.pointer (some ⟨x1p, x1o, some x1l⟩), Value.pointer (some ⟨x3p, x3o, some x3l⟩), Value.slice x4a x4n x4c, Value.int .i64 x7], H)) :=
 lp_of2 [.e, .e, .b false] (ai (decide_eq_false h1) (Eq.refl (Sum.inr (Ex.exit 0, [vP x1p x1o x1l, vP x3p x3o x3l, vS x4a x4n x4c, vI x7], H) : LS ⊕ LO))) (by kernel_rfl)
end
end Go.Proofs.Ythjkodbinkiifaa.Am23
set_option linter.unusedVariables false
open Go Go.Proofs.Ythjkodbinkiifaa.Am
namespace Go.Proofs.Ythjkodbinkiifaa.Am23
end Go.Proofs.Ythjkodbinkiifaa.Am23
set_option linter.unusedVariables false
open Go Go.Proofs.Ythjkodbinkiifaa.Am
namespace Go.Proofs.Ythjkodbinkiifaa.Am23
end Go.Proofs.Ythjkodbinkiifaa.Am23
namespace Go.Proofs.Ythjkodbinkiifaa.Am23
open Go Go.Proofs.Ythjkodbinkiifaa.Am

theorem loop42 {k : Nat} {xs : List Int} {bs : List Bool} (hG : Good k xs bs) {H0 : AHeap} {prot : Nat} {vN vA x4 x6 x3 : Value} {o4 o6 : Nat} {U : List Bool} (hU : U.length = bs.length) : ∀ (d i : Nat) (b : Option Nat) (H : AHeap), i + d = bs.length → (∀ t, b = some t → t < bs.length) →
  H[H0.length]? = some (bx k vN vA) → IsA H xs bs vN vA → H0.length < H.length → (∃ p o l, x3 = .pointer (some ⟨p, o, some l⟩)) →
  Own H 9 1 x4 (some o4) bs.length (sl (bfs k xs bs.length 0 true).ws) → Own H 4 1 x6 (some o6) bs.length (bll U) →
  ∃ H', lpInf (lpOf cfg a42 0 prot H0) ([.pointer (some ⟨H0.length, 0, some 3⟩), x3, x4, x6, .int .i64 (bi b), .int .i64 i], H) =
   some (.exit 0, [.pointer (some ⟨H0.length, 0, some 3⟩), x3, x4, .int .i64 (bi (pick (okB k xs bs.length U) (wd0 k xs bs.length 0) d i b))], H') ∧ Stay none H H'
 | 0, i, b, H, hi, hb, hbx, hA, hH, ⟨p, o, l, hx3⟩, w4, w6 => by
  obtain ⟨a4, c4, rfl⟩ := w4.len
  obtain ⟨a6, c6, rfl⟩ := w6.len
  subst hx3
  exact ⟨H, lp_last (f42_L0_5 (by omega)), Stay.refl _ _⟩
 | d + 1, i, b, H, hi, hb, hbx, hA, hH, ⟨p, o, l, hx3⟩, w4, w6 => by
  have hn5 := hG.n5
  have hin : i < bs.length := by omega
  have hok := bfs_ok hG (show 0 < bs.length by omega) true
  obtain ⟨_, e, m1, m2⟩ := own_at T23 w6 (bl_at (show i < U.length by omega))
  cases e
  have fi : Fit .i64 ((i : Int) + 1) := fit64 (by omega) (by omega)
  obtain ⟨_, _, _, gx⟩ := fld3 hbx
  by_cases hu : U.getD i false = true
  ·obtain ⟨x, y, pp, q, c, dd, H2, r1, rfl, rfl, r2, r3, r4, r5⟩ := c66 hG hin false H0.length H hA
   have hok2 := bfs_ok hG hin false
   have v4 := w4.stay r4 (fun id _ h => by cases h)
   have v6 := w6.stay r4 (fun id _ h => by cases h)
   obtain ⟨_, e, p1, p2⟩ := own_at T23 r3 (bl_at (show i < (bfs k xs bs.length i false).met.length by rw [hok2.lm]; exact hin))
   cases e
   have step : ∀ b' : Option Nat, b' = upd (okB k xs bs.length U) (wd0 k xs bs.length 0) i b → lpOf cfg a42 0 prot H0 ([.pointer (some ⟨H0.length, 0, some 3⟩), x3, x4, x6, .int .i64 (bi b), .int .i64 i], H) = some (.inl ([.pointer (some ⟨H0.length, 0, some 3⟩), x3, x4, x6, .int .i64 (bi b'), .int .i64 ((i : Int) + 1)], H2)) →
     ∃ H', lpInf (lpOf cfg a42 0 prot H0) ([.pointer (some ⟨H0.length, 0, some 3⟩), x3, x4, x6, .int .i64 (bi b), .int .i64 i], H) =
      some (.exit 0, [.pointer (some ⟨H0.length, 0, some 3⟩), x3, x4, .int .i64 (bi (pick (okB k xs bs.length U) (wd0 k xs bs.length 0) (d + 1) i b))], H') ∧ Stay none H H' := fun b' hb' hz => by
    obtain ⟨H', u1, u2⟩ := loop42 hG (prot := prot) (x3 := x3) hU d (i + 1) b' H2 (by omega) (fun t ht => by rw [hb'] at ht; rcases upd_some ht with ⟨rfl, _⟩ | h2; exact hin; exact hb t h2) (by rw [r4.2 _ hH (by simp)]; exact hbx) (hA.stay r4) (by omega) ⟨p, o, l, hx3⟩ v4 v6
    exact ⟨H', lp_next hz (by rw [pick, ← hb']; exact u1), r4.trans u2⟩
   obtain ⟨aN, cN, rfl⟩ := hA.n.len
   obtain ⟨aA, cA, rfl⟩ := hA.a.len
   obtain ⟨a4, c4, rfl⟩ := w4.len
   obtain ⟨a6, c6, rfl⟩ := w6.len
   subst hx3
   rw [hu] at m2
   by_cases hm : (bfs k xs bs.length i false).met.getD i false = true
   ·rw [hm] at p2
    have hokt : okB k xs bs.length U i = true := by unfold okB; rw [hu, hm]; rfl
    cases b with
    | none => exact step (some i) ((upd_ok (b := none) (wd := wd0 k xs bs.length 0) hokt (v := true) rfl).symm) (f42_L0_0 (by omega) m1 m2 rfl gx r1 p1 p2 rfl (by decide) fi)
    | some t =>
     have ht := hb t rfl
     obtain ⟨_, e, q1, q2⟩ := own_at T43 v4 (sl_at (show i < (bfs k xs bs.length 0 true).ws.length by rw [hok.lw]; exact hin))
     cases e
     obtain ⟨_, e, y1, y2⟩ := own_at T43 v4 (sl_at (show t < (bfs k xs bs.length 0 true).ws.length by rw [hok.lw]; exact ht))
     cases e
     have hbt : ¬ (bi (some t) < 0) := by simp only [bi]; omega
     have hc := c28 (wd0 k xs bs.length 0 i) (wd0 k xs bs.length 0 t) H0.length H2
     have ho := ord_slt (wd0 k xs bs.length 0 i) (wd0 k xs bs.length 0 t)
     by_cases h1 : ordV (wd0 k xs bs.length 0 i) (wd0 k xs bs.length 0 t) < 0
     ·exact step (some i) ((upd_ok (b := some t) (wd := wd0 k xs bs.length 0) hokt (v := true) (ho.1 h1)).symm) (f42_L0_1 (by omega) m1 m2 rfl gx r1 p1 p2 rfl hbt q1 q2 y1 y2 hc h1 fi)
     ·have hs : slt (wd0 k xs bs.length 0 i) (wd0 k xs bs.length 0 t) = false := by
       cases hh : slt (wd0 k xs bs.length 0 i) (wd0 k xs bs.length 0 t) with
       | false => rfl
       | true => exact absurd (ho.2 hh) h1
      exact step (some t) ((upd_ok (b := some t) (wd := wd0 k xs bs.length 0) hokt (v := false) hs).symm) (f42_L0_2 (by omega) m1 m2 rfl gx r1 p1 p2 rfl hbt q1 q2 y1 y2 hc h1 fi)
   ·have hm : (bfs k xs bs.length i false).met.getD i false = false := by simpa using hm
    rw [hm] at p2
    exact step b ((upd_no (by unfold okB; rw [hm, Bool.and_false])).symm) (f42_L0_3 (by omega) m1 m2 rfl gx r1 p1 p2 rfl fi)
  ·have hu : U.getD i false = false := by simpa using hu
   obtain ⟨H', u1, u2⟩ := loop42 hG (prot := prot) (x3 := x3) hU d (i + 1) b H (by omega) hb hbx hA hH ⟨p, o, l, hx3⟩ w4 w6
   obtain ⟨a4, c4, rfl⟩ := w4.len
   obtain ⟨a6, c6, rfl⟩ := w6.len
   subst hx3
   rw [hu] at m2
   refine ⟨H', lp_next (f42_L0_4 (by omega) m1 m2 rfl fi) ?_, u2⟩
   have : upd (okB k xs bs.length U) (wd0 k xs bs.length 0) i b = b := upd_no (by unfold okB; rw [hu, Bool.false_and])
   rw [pick, this]
   exact u1

theorem c42 {k : Nat} {xs : List Int} {bs : List Bool} {vN vA : Value} (hG : Good k xs bs) (prot : Nat) (H : AHeap) (hA : IsA H xs bs vN vA) :
  callInf cfg 42 [av k vN vA] prot H = some (.tuple #[.bool (boundV k xs bs).1, pv (boundV k xs bs).2], H) := by
 have hb1 := hG.n1
 have hb5 := hG.n5
 obtain ⟨B0, hB0⟩ : ∃ B0, B0 = AObj.cells [.string ByteArray.empty, .string ByteArray.empty, .string ByteArray.empty] 29 3 .var := ⟨_, rfl⟩
 obtain ⟨HX, hHX⟩ : ∃ HX, HX = H ++ [bx k vN vA] ++ [B0] := ⟨_, rfl⟩
 have lX : HX.length = H.length + 2 := by rw [hHX]; simp
 have sX : Stay none H HX := by rw [hHX]; exact (Stay.app none H _).trans (Stay.app none _ _)
 have hgX : HX[H.length]? = some (bx k vN vA) := by rw [hHX, List.getElem?_append_left (by simp)]; exact append_get.1
 have hgX1 : HX[H.length + 1]? = some B0 := by rw [hHX, List.getElem?_append_right (by simp)]; simp
 have hAX := hA.stay sX
 obtain ⟨x, y, p2, q2, c2, d2, H1, s1, rfl, rfl, s2, s3, s4, s5⟩ := c66 hG (a := 0) (by omega) true H.length HX hAX
 obtain ⟨p1, d1, H2, r1, r2, r3⟩ := c59 hG H.length H1 (hAX.stay s4)
 have hg1 : H1[H.length]? = some (bx k vN vA) := by rw [s4.2 _ (by omega) (by simp)]; exact hgX
 have st2 := s4.trans r3
 have hg2 : H2[H.length]? = some (bx k vN vA) := by rw [st2.2 _ (by omega) (by simp)]; exact hgX
 have l2 := st2.1
 obtain ⟨H3, t1, t2⟩ := loop42 hG (prot := prot) (x3 := .pointer (some ⟨H.length + 1, 0, some 3⟩)) (useL_len k xs bs) bs.length 0 none H2 (by omega) (fun t h => by cases h) hg2 (hAX.stay st2) (by omega) ⟨_, _, _, rfl⟩ (s2.stay r3 (fun id _ h => by cases h)) r2
 have st3 := st2.trans t2
 have l3 := st3.1
 have hg3 : H3[H.length]? = some (bx k vN vA) := by rw [st3.2 _ (by omega) (by simp)]; exact hgX
 have hg31 : H3[H.length + 1]? = some B0 := by rw [st3.2 _ (by omega) (by simp)]; exact hgX1
 have hA3 := hAX.stay st3
 rw [show pick (okB k xs bs.length (useL k xs bs)) (wd0 k xs bs.length 0) bs.length 0 none = bestV k xs bs from rfl] at t1
 have e1 : (H ++ [bx k vN vA]).length = H.length + 1 := by simp
 obtain ⟨aN, cN, rfl⟩ := hA.n.len
 obtain ⟨aA, cA, rfl⟩ := hA.a.len
 obtain ⟨_, _, _, gX⟩ := fld3 hgX
 obtain ⟨_, _, _, g1⟩ := fld3 hg1
 cases hbv : bestV k xs bs with
 | none =>
  rw [hbv] at t1
  rw [hB0] at hg31
  obtain ⟨H4, u1, u2, _, _⟩ := set3s hg31 (show H.length ≤ H.length + 1 by omega) (x := .string ByteArray.empty) (y := .string ByteArray.empty) (z := .string ByteArray.empty) rfl
  have hv : boundV k xs bs = (true, ByteArray.empty, ByteArray.empty, ByteArray.empty) := by unfold boundV; rw [hbv]
  rw [hv]
  subst hHX; subst hB0
  rw [← e1] at t1 u1 u2
  exact f42_F_0 all3 gX s1 g1 r1 t1 (by decide) rfl u1 u2
 | some b =>
  rw [hbv] at t1
  obtain ⟨hb, _, e, he1, he2, he3⟩ := best_end hG hbv
  obtain ⟨x4, y4, p4, q4, c4, d4, H4, v1, rfl, rfl, v2, v3, v4, v5⟩ := c66 hG hb false H.length H3 hA3
  have hte := c67 hG hb H.length H4 (hA3.stay v4)
  have st5 := st3.trans v4
  have hg4 : H4[H.length]? = some (bx k (.slice aN xs.length cN) (.slice aA bs.length cA)) := by rw [st5.2 _ (by omega) (by simp)]; exact hgX
  have hg51 : H4[H.length + 1]? = some B0 := by rw [st5.2 _ (by omega) (by simp)]; exact hgX1
  have hok0 := bfs_ok hG (show 0 < bs.length by omega) true
  have hokf := bfs_ok hG hb false
  have o4 := s2.stay (r3.trans (t2.trans v4)) (fun id _ h => by cases h)
  obtain ⟨_, ee, y1, y2⟩ := own_at T43 o4 (sl_at (show b < (bfs k xs bs.length 0 true).ws.length by rw [hok0.lw]; exact hb))
  cases ee
  obtain ⟨_, ee, z1, z2⟩ := own_at T43 v2 (sl_at (show b < (bfs k xs bs.length b false).ws.length by rw [hokf.lw]; exact hb))
  cases ee
  rw [hB0] at hg51
  obtain ⟨H6, u1, u2, _, _⟩ := set3s hg51 (show H.length ≤ H.length + 1 by omega) (x := .string (wd0 k xs bs.length 0 b)) (y := .string (lw ((bfs k xs bs.length b false).ws.getD b []))) (z := .string (wd0 k xs bs.length b e)) rfl
  have hv : boundV k xs bs = (false, wd0 k xs bs.length 0 b, lw ((bfs k xs bs.length b false).ws.getD b []), wd0 k xs bs.length b e) := by unfold boundV; rw [hbv]; simp only; rw [he1]; rfl
  rw [hv]
  rw [he1] at hte
  obtain ⟨_, _, _, g3⟩ := fld3 hg3
  obtain ⟨_, _, _, g4⟩ := fld3 hg4
  subst hHX; subst hB0
  rw [← e1] at t1 u1 u2
  exact f42_F_1 all3 gX s1 g1 r1 t1 (by simp only [bi]; omega) g3 v1 g4 hte y1 y2 z1 z2 rfl u1 u2
end Go.Proofs.Ythjkodbinkiifaa.Am23
set_option linter.unusedVariables false
open Go Go.Proofs.Ythjkodbinkiifaa.Am
namespace Go.Proofs.Ythjkodbinkiifaa.Am23
section
variable {x0a x14a x15 x20a z8 x8 x10 z10 x12 z12 x13 x61 x66a x69 : Int}
variable {x0ba x0ca x14ba x14ca x20ba x20ca x27a x9a x34a z11a x11a x54a z9a x66ba x66ca : Option Addr}
variable {x0bn x0bc x0cn x0cc prot x14bn x14bc x14cn x14cc x20bn x20bc x20cn x20cc x27n x27c x31p x31o x31l x1p x1o x1l x9n x9c x34n x34c z1p z1o z1l z11n z11c x11n x11c x50p x50o x50l x54n x54c x56p x56o x56l z9n z9c x66bn x66bc x66cn x66cc x70p x70o x70l : Nat}
variable {H H1 H2 H3 H0 : AHeap}
variable {x21a x51 x57 : Bool}
variable {x21ba x21bb x21bc : ByteArray}
theorem f33_F_0 (h1 : [vI x0a, vS x0ba x0bn x0bc, vS x0ca x0cn x0cc].all isCell = true) (h2 : getCells (H ++ [vo [vI x0a, vS x0ba x0bn x0bc, vS x0ca x0cn x0cc] 25]) H.length 3 0 3 = some [vI x14a, vS x14ba x14bn x14bc, vS x14ca x14cn x14cc]) (h3 : cI 41 [Value.agg #[vI x14a, vS x14ba x14bn x14bc, vS x14ca x14cn x14cc]] H.length (H ++ [vo [vI x0a, vS x0ba x0bn x0bc, vS x0ca x0cn x0cc] 25]) = some (vI x15, H ++ [vo [vI x0a, vS x0ba x0bn x0bc, vS x0ca x0cn x0cc] 25])) (h4 : (x15 != 0) = true) : callInf cfg 33 [.agg #[.int .i64 x0a, .slice x0ba x0bn x0bc, .slice x0ca x0cn x0cc]] prot H = some (Value.tuple { toList := [Value.int .i64 0, Value.bool false, Value.int .i64 x15] }, H) :=
 fn_of2 a33 [.e, .v (.agg #[vI x14a, vS x14ba x14bn x14bc, vS x14ca x14cn x14cc]), .v (vI x15), .e, .b true] (ai h1 (ai h2 (ai h3 (ai h4 (Eq.refl ((Value.tuple #[vI 0, Value.bool false, vI x15], H) : Value × AHeap)))))) (by kernel_rfl) rfl
theorem f33_F_1 (h1 : [vI x0a, vS x0ba x0bn x0bc, vS x0ca x0cn x0cc].all isCell = true) (h2 : getCells (H ++ [vo [vI x0a, vS x0ba x0bn x0bc, vS x0ca x0cn x0cc] 25]) H.length 3 0 3 = some [vI x14a, vS x14ba x14bn x14bc, vS x14ca x14cn x14cc]) (h3 : cI 41 [Value.agg #[vI x14a, vS x14ba x14bn x14bc, vS x14ca x14cn x14cc]] H.length (H ++ [vo [vI x0a, vS x0ba x0bn x0bc, vS x0ca x0cn x0cc] 25]) = some (vI x15, H ++ [vo [vI x0a, vS x0ba x0bn x0bc, vS x0ca x0cn x0cc] 25])) (h4 : (x15 != 0) = false) (h5 : getCells (H ++ [vo [vI x0a, vS x0ba x0bn x0bc, vS x0ca x0cn x0cc] 25]) H.length 3 0 3 = some [vI x20a, vS x20ba x20bn x20bc, vS x20ca x20cn x20cc]) (h6 : cI 42 [Value.agg #[vI x20a, vS x20ba x20bn x20bc, vS x20ca x20cn x20cc]] H.length (H ++ [vo [vI x0a, vS x0ba x0bn x0bc, vS x0ca x0cn x0cc] 25]) = some (Value.tuple #[Value.bool x21a, Value.agg #[Value.string x21ba, Value.string x21bb, Value.string x21bc]], H ++ [vo [vI x0a, vS x0ba x0bn x0bc, vS x0ca x0cn x0cc] 25])) (h7 : 3 = 3) (h8 : setCells (H ++ [vo [vI x0a, vS x0ba x0bn x0bc, vS x0ca x0cn x0cc] 25] ++ [vo [vE, vE, vE] 29]) H.length (List.length (H ++ [vo [vI x0a, vS x0ba x0bn x0bc, vS x0ca x0cn x0cc] 25])) 3 0 [Value.string x21ba, Value.string x21bb, Value.string x21bc] = some H1) (h9 : (!x21a) = false) (h10 : getCells H1 H.length 3 (0 + 2) 1 = some [vS x27a x27n x27c]) (h11 : 0 ≤ (↑x27n : Int)) (h12 : (↑x27n : Int) = (↑x27n : Int)) (h13 : (↑x27n : Int) ≤ 9223372036854775807) (h14 : (↑1 : Int) * (↑x27n : Int) ≤ 2 ^ 48) (h15 : aX 23 (vS (some ⟨H1.length, 0, some ((↑x27n : Int).toNat * 1)⟩) (↑x27n : Int).toNat (↑x27n : Int).toNat) (vI 0) = some (vP x31p x31o x31l)) (h16 : 1 = 1) (h17 : setCells (H1 ++ [AObj.cells (repCells [Value.bool false] (↑x27n : Int).toNat) 4 (repCells [Value.bool false] (↑x27n : Int).toNat).length OMode.row]) H.length x31p x31l x31o [Value.bool true] = some H2) (h18 : lI a33 0 prot H ([vP H.length 0 3, vI (-1), vS (some ⟨H1.length, 0, some ((↑x27n : Int).toNat * 1)⟩) (↑x27n : Int).toNat (↑x27n : Int).toNat, vI 0], H2) = some (Ex.exit 0, [vI z8], H3)) (h19 : z8 < 0) : callInf cfg 33 [.agg #[.int .i64 x0a, .slice x0ba x0bn x0bc, .slice x0ca x0cn x0cc]] prot H = some (Value.tuple { toList := [Value.int .i64 0, Value.bool false, Value.int .i64 0] }, H) :=
 fn_of2 a33 [.e, .v (.agg #[vI x14a, vS x14ba x14bn x14bc, vS x14ca x14cn x14cc]), .v (vI x15), .e, .b false, .v (.agg #[vI x20a, vS x20ba x20bn x20bc, vS x20ca x20cn x20cc]), .v (.tuple #[.bool x21a, .agg #[.string x21ba, .string x21bb, .string x21bc]]), .e, .h H1, .e, .b false, .v (vS x27a x27n x27c), .e, .e, .v (vP x31p x31o x31l), .h H2, .lo (.exit 0, [vI z8], H3), .e, .b true] (ai h1 (ai h2 (ai h3 (ai h4 (ai h5 (ai h6 (ai h7 (ai h8 (ai h9 (ai h10 (ai h11 (ai h12 (ai h13 (ai h14 (ai h15 (ai h16 (ai h17 (ai h18 (ai (decide_eq_true h19) (Eq.refl ((Value.tuple #[vI 0, Value.bool false, vI 0], H) : Value × AHeap))))))))))))))))))))) (by kernel_rfl) rfl
theorem f33_F_2 (h1 : [vI x0a, vS x0ba x0bn x0bc, vS x0ca x0cn x0cc].all isCell = true) (h2 : getCells (H ++ [vo [vI x0a, vS x0ba x0bn x0bc, vS x0ca x0cn x0cc] 25]) H.length 3 0 3 = some [vI x14a, vS x14ba x14bn x14bc, vS x14ca x14cn x14cc]) (h3 : cI 41 [Value.agg #[vI x14a, vS x14ba x14bn x14bc, vS x14ca x14cn x14cc]] H.length (H ++ [vo [vI x0a, vS x0ba x0bn x0bc, vS x0ca x0cn x0cc] 25]) = some (vI x15, H ++ [vo [vI x0a, vS x0ba x0bn x0bc, vS x0ca x0cn x0cc] 25])) (h4 : (x15 != 0) = false) (h5 : getCells (H ++ [vo [vI x0a, vS x0ba x0bn x0bc, vS x0ca x0cn x0cc] 25]) H.length 3 0 3 = some [vI x20a, vS x20ba x20bn x20bc, vS x20ca x20cn x20cc]) (h6 : cI 42 [Value.agg #[vI x20a, vS x20ba x20bn x20bc, vS x20ca x20cn x20cc]] H.length (H ++ [vo [vI x0a, vS x0ba x0bn x0bc, vS x0ca x0cn x0cc] 25]) = some (Value.tuple #[Value.bool x21a, Value.agg #[Value.string x21ba, Value.string x21bb, Value.string x21bc]], H ++ [vo [vI x0a, vS x0ba x0bn x0bc, vS x0ca x0cn x0cc] 25])) (h7 : 3 = 3) (h8 : setCells (H ++ [vo [vI x0a, vS x0ba x0bn x0bc, vS x0ca x0cn x0cc] 25] ++ [vo [vE, vE, vE] 29]) H.length (List.length (H ++ [vo [vI x0a, vS x0ba x0bn x0bc, vS x0ca x0cn x0cc] 25])) 3 0 [Value.string x21ba, Value.string x21bb, Value.string x21bc] = some H1) (h9 : (!x21a) = false) (h10 : getCells H1 H.length 3 (0 + 2) 1 = some [vS x27a x27n x27c]) (h11 : 0 ≤ (↑x27n : Int)) (h12 : (↑x27n : Int) = (↑x27n : Int)) (h13 : (↑x27n : Int) ≤ 9223372036854775807) (h14 : (↑1 : Int) * (↑x27n : Int) ≤ 2 ^ 48) (h15 : aX 23 (vS (some ⟨H1.length, 0, some ((↑x27n : Int).toNat * 1)⟩) (↑x27n : Int).toNat (↑x27n : Int).toNat) (vI 0) = some (vP x31p x31o x31l)) (h16 : 1 = 1) (h17 : setCells (H1 ++ [AObj.cells (repCells [Value.bool false] (↑x27n : Int).toNat) 4 (repCells [Value.bool false] (↑x27n : Int).toNat).length OMode.row]) H.length x31p x31l x31o [Value.bool true] = some H2) (h18 : lI a33 0 prot H ([vP H.length 0 3, vI (-1), vS (some ⟨H1.length, 0, some ((↑x27n : Int).toNat * 1)⟩) (↑x27n : Int).toNat (↑x27n : Int).toNat, vI 0], H2) = some (Ex.exit 0, [vI z8], H3)) (h19 : ¬(z8 < 0)) : callInf cfg 33 [.agg #[.int .i64 x0a, .slice x0ba x0bn x0bc, .slice x0ca x0cn x0cc]] prot H = some (Value.tuple { toList := [Value.int .i64 z8, Value.bool true, Value.int .i64 0] }, H) :=
 fn_of2 a33 [.e, .v (.agg #[vI x14a, vS x14ba x14bn x14bc, vS x14ca x14cn x14cc]), .v (vI x15), .e, .b false, .v (.agg #[vI x20a, vS x20ba x20bn x20bc, vS x20ca x20cn x20cc]), .v (.tuple #[.bool x21a, .agg #[.string x21ba, .string x21bb, .string x21bc]]), .e, .h H1, .e, .b false, .v (vS x27a x27n x27c), .e, .e, .v (vP x31p x31o x31l), .h H2, .lo (.exit 0, [vI z8], H3), .e, .b false] (ai h1 (ai h2 (ai h3 (ai h4 (ai h5 (ai h6 (ai h7 (ai h8 (ai h9 (ai h10 (ai h11 (ai h12 (ai h13 (ai h14 (ai h15 (ai h16 (ai h17 (ai h18 (ai (decide_eq_false h19) (Eq.refl ((Value.tuple #[vI z8, Value.bool true, vI 0], H) : Value × AHeap))))))))))))))))))))) (by kernel_rfl) rfl
theorem f33_F_3 (h1 : [vI x0a, vS x0ba x0bn x0bc, vS x0ca x0cn x0cc].all isCell = true) (h2 : getCells (H ++ [vo [vI x0a, vS x0ba x0bn x0bc, vS x0ca x0cn x0cc] 25]) H.length 3 0 3 = some [vI x14a, vS x14ba x14bn x14bc, vS x14ca x14cn x14cc]) (h3 : cI 41 [Value.agg #[vI x14a, vS x14ba x14bn x14bc, vS x14ca x14cn x14cc]] H.length (H ++ [vo [vI x0a, vS x0ba x0bn x0bc, vS x0ca x0cn x0cc] 25]) = some (vI x15, H ++ [vo [vI x0a, vS x0ba x0bn x0bc, vS x0ca x0cn x0cc] 25])) (h4 : (x15 != 0) = false) (h5 : getCells (H ++ [vo [vI x0a, vS x0ba x0bn x0bc, vS x0ca x0cn x0cc] 25]) H.length 3 0 3 = some [vI x20a, vS x20ba x20bn x20bc, vS x20ca x20cn x20cc]) (h6 : cI 42 [Value.agg #[vI x20a, vS x20ba x20bn x20bc, vS x20ca x20cn x20cc]] H.length (H ++ [vo [vI x0a, vS x0ba x0bn x0bc, vS x0ca x0cn x0cc] 25]) = some (Value.tuple #[Value.bool x21a, Value.agg #[Value.string x21ba, Value.string x21bb, Value.string x21bc]], H ++ [vo [vI x0a, vS x0ba x0bn x0bc, vS x0ca x0cn x0cc] 25])) (h7 : 3 = 3) (h8 : setCells (H ++ [vo [vI x0a, vS x0ba x0bn x0bc, vS x0ca x0cn x0cc] 25] ++ [vo [vE, vE, vE] 29]) H.length (List.length (H ++ [vo [vI x0a, vS x0ba x0bn x0bc, vS x0ca x0cn x0cc] 25])) 3 0 [Value.string x21ba, Value.string x21bb, Value.string x21bc] = some H1) (h9 : (!x21a) = true) : callInf cfg 33 [.agg #[.int .i64 x0a, .slice x0ba x0bn x0bc, .slice x0ca x0cn x0cc]] prot H = some (Value.tuple { toList := [Value.int .i64 0, Value.bool false, Value.int .i64 0] }, H) :=
 fn_of2 a33 [.e, .v (.agg #[vI x14a, vS x14ba x14bn x14bc, vS x14ca x14cn x14cc]), .v (vI x15), .e, .b false, .v (.agg #[vI x20a, vS x20ba x20bn x20bc, vS x20ca x20cn x20cc]), .v (.tuple #[.bool x21a, .agg #[.string x21ba, .string x21bb, .string x21bc]]), .e, .h H1, .e, .b true] (ai h1 (ai h2 (ai h3 (ai h4 (ai h5 (ai h6 (ai h7 (ai h8 (ai h9 (Eq.refl ((Value.tuple #[vI 0, Value.bool false, vI 0], H) : Value × AHeap))))))))))) (by kernel_rfl) rfl
theorem f33_L0_0 (h1 : getCells H x1p x1l (x1o + 2) 1 = some [vS x34a x34n x34c]) (h2 : x10 < (↑x34n : Int)) (h3 : 0 ≤ (↑x9n : Int)) (h4 : (↑x9n : Int) = (↑x9n : Int)) (h5 : (↑x9n : Int) ≤ 9223372036854775807) (h6 : (↑1 : Int) * (↑x9n : Int) ≤ 2 ^ 48) (h7 : lI a33 1 prot H0 ([vP x1p x1o x1l, vI x8, vS x9a x9n x9c, vI x10, vS (some ⟨H.length, 0, some ((↑x9n : Int).toNat * 1)⟩) (↑x9n : Int).toNat (↑x9n : Int).toNat, vI 0], H ++ [AObj.cells (repCells [Value.bool false] (↑x9n : Int).toNat) 4 (repCells [Value.bool false] (↑x9n : Int).toNat).length OMode.row]) = some (Ex.exit 2, [vP z1p z1o z1l, vI z8, vI z10, vS z11a z11n z11c], H2)) (h8 : Fit .i64 (z10 + 1)) : lpOf cfg a33 0 prot H0 ([.pointer (some ⟨x1p, x1o, some x1l⟩), .int .i64 x8, .slice x9a x9n x9c, .int .i64 x10], H) = some (Sum.inl ([Value.pointer (some ⟨z1p, z1o, some z1l⟩), Value.int .i64 z8, Value.slice z11a z11n z11c, Value.int .i64 (z10 + 1)], H2)) :=
 lp_of2 [.v (vS x34a x34n x34c), .e, .e, .b true, .e, .e, .lo (.exit 2, [vP z1p z1o z1l, vI z8, vI z10, vS z11a z11n z11c], H2), .e] (ai h1 (ai (decide_eq_true h2) (ai h3 (ai h4 (ai h5 (ai h6 (ai h7 (ai h8 (Eq.refl (Sum.inl ([vP z1p z1o z1l, vI z8, vS z11a z11n z11c, vI (z10 + 1)], H2) : LS ⊕ LO)))))))))) (by kernel_rfl)
theorem f33_L0_1 (h1 : getCells H x1p x1l (x1o + 2) 1 = some [vS x34a x34n x34c]) (h2 : ¬(x10 < (↑x34n : Int))) : lpOf cfg a33 0 prot H0 ([.pointer (some ⟨x1p, x1o, some x1l⟩), .int .i64 x8, .slice x9a x9n x9c, .int .i64 x10], H) = some (Sum.inr (Ex.exit 0, [Value.int .i64 x8], H)) :=
 lp_of2 [.v (vS x34a x34n x34c), .e, .e, .b false] (ai h1 (ai (decide_eq_false h2) (Eq.refl (Sum.inr (Ex.exit 0, [vI x8], H) : LS ⊕ LO)))) (by kernel_rfl)
theorem f33_L1_0 (h1 : x12 < (↑x9n : Int)) (h2 : aX 23 (vS x9a x9n x9c) (vI x12) = some (vP x50p x50o x50l)) (h3 : getCells H x50p x50l x50o 1 = some [Value.bool x51]) (h4 : (!x51) = false) (h5 : getCells H x1p x1l (x1o + 2) 1 = some [vS x54a x54n x54c]) (h6 : aX 23 (vS x54a x54n x54c) (vI x12) = some (vP x56p x56o x56l)) (h7 : getCells H x56p x56l x56o 1 = some [Value.bool x57]) (h8 : x57 = true) (h9 : lI a33 2 prot H0 ([vP x1p x1o x1l, vI x10, vS x9a x9n x9c, vI x10, vS x11a x11n x11c, vI x12, vI 0], H) = some (Ex.exit 4, [vP z1p z1o z1l, vI z8, vS z9a z9n z9c, vI z10, vS z11a z11n z11c, vI z12], H2)) (h10 : Fit .i64 (z12 + 1)) : lpOf cfg a33 1 prot H0 ([.pointer (some ⟨x1p, x1o, some x1l⟩), .int .i64 x8, .slice x9a x9n x9c, .int .i64 x10, .slice x11a x11n x11c, .int .i64 x12], H) = some (Sum.inl ([Value.pointer (some ⟨z1p, z1o, some z1l⟩), Value.int .i64 z8, Value.slice z9a z9n z9c, Value.int .i64 z10, Value.slice z11a z11n z11c, Value.int .i64 (z12 + 1)], H2)) :=
 lp_of2 [.e, .e, .b true, .v (vP x50p x50o x50l), .v (.bool x51), .e, .b false, .v (vS x54a x54n x54c), .v (vP x56p x56o x56l), .v (.bool x57), .b true, .lo (.exit 4, [vP z1p z1o z1l, vI z8, vS z9a z9n z9c, vI z10, vS z11a z11n z11c, vI z12], H2), .e] (ai (decide_eq_true h1) (ai h2 (ai h3 (ai h4 (ai h5 (ai h6 (ai h7 (ai h8 (ai h9 (ai h10 (Eq.refl (Sum.inl ([vP z1p z1o z1l, vI z8, vS z9a z9n z9c, vI z10, vS z11a z11n z11c, vI (z12 + 1)], H2) : LS ⊕ LO)))))))))))) (by kernel_rfl)
theorem f33_L1_1 (h1 : x12 < (↑x9n : Int)) (h2 : aX 23 (vS x9a x9n x9c) (vI x12) = some (vP x50p x50o x50l)) (h3 : getCells H x50p x50l x50o 1 = some [Value.bool x51]) (h4 : (!x51) = false) (h5 : getCells H x1p x1l (x1o + 2) 1 = some [vS x54a x54n x54c]) (h6 : aX 23 (vS x54a x54n x54c) (vI x12) = some (vP x56p x56o x56l)) (h7 : getCells H x56p x56l x56o 1 = some [Value.bool x57]) (h8 : x57 = false) (h9 : lI a33 2 prot H0 ([vP x1p x1o x1l, vI x8, vS x9a x9n x9c, vI x10, vS x11a x11n x11c, vI x12, vI 0], H) = some (Ex.exit 4, [vP z1p z1o z1l, vI z8, vS z9a z9n z9c, vI z10, vS z11a z11n z11c, vI z12], H2)) (h10 : Fit .i64 (z12 + 1)) : lpOf cfg a33 1 prot H0 ([.pointer (some ⟨x1p, x1o, some x1l⟩), .int .i64 x8, .slice x9a x9n x9c, .int .i64 x10, .slice x11a x11n x11c, .int .i64 x12], H) = some (Sum.inl ([Value.pointer (some ⟨z1p, z1o, some z1l⟩), Value.int .i64 z8, Value.slice z9a z9n z9c, Value.int .i64 z10, Value.slice z11a z11n z11c, Value.int .i64 (z12 + 1)], H2)) :=
 lp_of2 [.e, .e, .b true, .v (vP x50p x50o x50l), .v (.bool x51), .e, .b false, .v (vS x54a x54n x54c), .v (vP x56p x56o x56l), .v (.bool x57), .b false, .lo (.exit 4, [vP z1p z1o z1l, vI z8, vS z9a z9n z9c, vI z10, vS z11a z11n z11c, vI z12], H2), .e] (ai (decide_eq_true h1) (ai h2 (ai h3 (ai h4 (ai h5 (ai h6 (ai h7 (ai h8 (ai h9 (ai h10 (Eq.refl (Sum.inl ([vP z1p z1o z1l, vI z8, vS z9a z9n z9c, vI z10, vS z11a z11n z11c, vI (z12 + 1)], H2) : LS ⊕ LO)))))))))))) (by kernel_rfl)
theorem f33_L1_2 (h1 : x12 < (↑x9n : Int)) (h2 : aX 23 (vS x9a x9n x9c) (vI x12) = some (vP x50p x50o x50l)) (h3 : getCells H x50p x50l x50o 1 = some [Value.bool x51]) (h4 : (!x51) = true) (h5 : Fit .i64 (x12 + 1)) : lpOf cfg a33 1 prot H0 ([.pointer (some ⟨x1p, x1o, some x1l⟩), .int .i64 x8, .slice x9a x9n x9c, .int .i64 x10, .slice x11a x11n x11c, .int .i64 x12], H) = some (Sum.inl ([Value.pointer (some ⟨x1p, x1o, some x1l⟩), Value.int .i64 x8, Value.slice x9a x9n x9c, Value.int .i64 x10, Value.slice x11a x11n x11c, Value.int .i64 (x12 + 1)], H)) :=
 lp_of2 [.e, .e, .b true, .v (vP x50p x50o x50l), .v (.bool x51), .e, .b true, .e] (ai (decide_eq_true h1) (ai h2 (ai h3 (ai h4 (ai h5 (Eq.refl (Sum.inl ([vP x1p x1o x1l, vI x8, vS x9a x9n x9c, vI x10, vS x11a x11n x11c, vI (x12 + 1)], H) : LS ⊕ LO))))))) (by kernel_rfl)
theorem f33_L1_3 (h1 : ¬(x12 < (↑x9n : Int))) : lpOf cfg a33 1 prot H0 ([.pointer (some ⟨x1p, x1o, some x1l⟩), .int .i64 x8, .slice x9a x9n x9c, .int .i64 x10, .slice x11a x11n x11c, .int .i64 x12], H) = some (Sum.inr (Ex.exit 2, [Value.pointer (some ⟨x1p, x1o, some x1l⟩), Value.int .i64 x8, Value.int .i64 x10, Value.slice x11a x11n x11c], H)) :=
 lp_of2 [.e, .e, .b false] (ai (decide_eq_false h1) (Eq.refl (Sum.inr (Ex.exit 2, [vP x1p x1o x1l, vI x8, vI x10, vS x11a x11n x11c], H) : LS ⊕ LO))) (by kernel_rfl)
theorem f33_L2_0 (h1 : getCells H x1p x1l (x1o + 0) 1 = some [vI x61]) (h2 : x13 < x61) (h3 : getCells H x1p x1l x1o 3 = some [vI x66a, vS x66ba x66bn x66bc, vS x66ca x66cn x66cc]) (h4 : cI 58 [Value.agg #[vI x66a, vS x66ba x66bn x66bc, vS x66ca x66cn x66cc], vI x12, vI x13] H0.length H = some (vI x69, H)) (h5 : aX 23 (vS x11a x11n x11c) (vI x69) = some (vP x70p x70o x70l)) (h6 : 1 = 1) (h7 : setCells H H0.length x70p x70l x70o [Value.bool true] = some H2) (h8 : Fit .i64 (x13 + 1)) : lpOf cfg a33 2 prot H0 ([.pointer (some ⟨x1p, x1o, some x1l⟩), .int .i64 x8, .slice x9a x9n x9c, .int .i64 x10, .slice x11a x11n x11c, .int .i64 x12, .int .i64 x13], H) = some (Sum.inl ([Value.pointer (some ⟨x1p, x1o, some x1l⟩), Value.int .i64 x8, Value.slice x9a x9n x9c, Value.int .i64 x10, Value.slice x11a x11n x11c, Value.int .i64 x12, Value.int .i64 (x13 + 1)], H2)) :=
 lp_of2 [.v (vI x61), .e, .b true, .v (.agg #[vI x66a, vS x66ba x66bn x66bc, vS x66ca x66cn x66cc]), .v (vI x69), .v (vP x70p x70o x70l), .h H2, .e] (ai h1 (ai (decide_eq_true h2) (ai h3 (ai h4 (ai h5 (ai h6 (ai h7 (ai h8 (Eq.refl (Sum.inl ([vP x1p x1o x1l, vI x8, vS x9a x9n x9c, vI x10, vS x11a x11n x11c, vI x12, vI (x13 + 1)], H2) : LS ⊕ LO)))))))))) (by kernel_rfl)
theorem f33_L2_1 (h1 : getCells H x1p x1l (x1o + 0) 1 = some [vI x61]) (h2 : ¬(x13 < x61)) : lpOf cfg a33 2 prot H0 ([.pointer (some ⟨x1p, x1o, some x1l⟩), .int .i64 x8, .slice x9a x9n x9c, .int .i64 x10, .slice x11a x11n x11c, .int .i64 x12, .int .i64 x13], H) = some (Sum.inr (Ex.exit 4, [Value.pointer (some ⟨x1p, x1o, some x1l⟩), Value.int .i64 x8, Value.slice x9a x9n x9c, Value.int .i64 x10, Value.slice x11a x11n x11c, Value.int .i64 x12], H)) :=
 lp_of2 [.v (vI x61), .e, .b false] (ai h1 (ai (decide_eq_false h2) (Eq.refl (Sum.inr (Ex.exit 4, [vP x1p x1o x1l, vI x8, vS x9a x9n x9c, vI x10, vS x11a x11n x11c, vI x12], H) : LS ⊕ LO)))) (by kernel_rfl)
end
end Go.Proofs.Ythjkodbinkiifaa.Am23
namespace Go.Proofs.Ythjkodbinkiifaa.Am23
open Go Go.Proofs.Ythjkodbinkiifaa.Am
/-! The document's Longest. -/
open Classical in
noncomputable def SS (k : Nat) (xs : List Int) (N : Nat) : Nat → Nat → Bool
 | 0, t => decide (t = 0)
 | m + 1, t => decide (∃ s, s < N ∧ SS k xs N m s = true ∧ ∃ c, c < k ∧ tgt k xs s c = t)
theorem SS_iff {k : Nat} {xs : List Int} {bs : List Bool} (hG : Good k xs bs) : ∀ (m t : Nat), SS k xs bs.length m t = true ↔ ∃ w, Wk k w ∧ w.length = m ∧ go k xs 0 w = t
 | 0, t => by
  rw [SS, decide_eq_true_iff]
  constructor
  ·rintro rfl; exact ⟨[], ⟨fun c h => absurd h (by simp), rfl, rfl⟩⟩
  ·rintro ⟨w, _, h2, h3⟩
   rw [List.eq_nil_of_length_eq_zero h2] at h3
   exact h3.symm
 | m + 1, t => by
  have hn1 := hG.n1
  rw [SS, decide_eq_true_iff]
  constructor
  ·rintro ⟨s, _, h2, c, h3, h4⟩
   obtain ⟨w, w1, w2, w3⟩ := (SS_iff hG m s).1 h2
   refine ⟨w ++ [c], fun d hd => ?_, by simp [w2], by rw [go_app, w3]; exact h4⟩
   rcases List.mem_append.1 hd with hd | hd
   ·exact w1 d hd
   ·rw [List.mem_singleton] at hd; omega
  ·rintro ⟨w, w1, w2, w3⟩
   have hne : w ≠ [] := fun e => by rw [e] at w2; cases w2
   have hsp := List.dropLast_concat_getLast hne
   have hw1 : Wk k w.dropLast := fun d hd => w1 d (List.dropLast_subset w hd)
   rw [← hsp, go_app] at w3
   exact ⟨go k xs 0 w.dropLast, go_lt hG _ _ hw1 (by omega), (SS_iff hG m _).2 ⟨w.dropLast, hw1, by rw [List.length_dropLast]; omega, rfl⟩, w.getLast hne, w1 _ (List.getLast_mem hne), w3⟩
def bl (S : Nat → Bool) (N : Nat) : List Bool := (List.range N).map S
theorem bl_len (S : Nat → Bool) (N : Nat) : (bl S N).length = N := by simp [bl]
theorem bl_get {S : Nat → Bool} {N s : Nat} (h : s < N) : (bll (bl S N))[s]? = some (.bool (S s)) := by
 unfold bll bl
 rw [List.getElem?_map, List.getElem?_map, List.getElem?_range h]; rfl
def orS (S : Nat → Bool) (t : Nat) : Nat → Bool := fun x => S x || decide (x = t)
theorem bl_put {S : Nat → Bool} {N t : Nat} (h : t < N) : putList (bll (bl S N)) (t * 1 + 0) [.bool true] = bll (bl (orS S t) N) := by
 rw [Nat.mul_one, Nat.add_zero, put_one _ (by simp [bll, bl_len]; exact h)]
 apply List.ext_getElem?
 intro x
 by_cases e : x = t
 ·subst e
  rw [List.getElem?_set_self (by simp [bll, bl_len]; exact h), bl_get h]
  simp [orS]
 ·rw [List.getElem?_set_ne (fun h => e h.symm)]
  by_cases hx : x < N
  ·rw [bl_get hx, bl_get hx]; simp [orS, e]
  ·rw [List.getElem?_eq_none (by simp [bll, bl_len]; omega), List.getElem?_eq_none (by simp [bll, bl_len]; omega)]
/-- The two sets in memory. -/
structure S33 (k : Nat) (xs : List Int) (bs : List Bool) (H0 H : AHeap) (vN vA x9 x11 : Value) (o9 o11 : Nat) (S M : Nat → Bool) : Prop where
 b : H[H0.length]? = some (bx k vN vA)
 a : IsA H xs bs vN vA
 ln : Low H0.length vN
 la : Low H0.length vA
 h9 : Own H 4 1 x9 (some o9) bs.length (bll (bl S bs.length))
 h11 : Own H 4 1 x11 (some o11) bs.length (bll (bl M bs.length))
 l9 : H0.length < o9
 l11 : H0.length < o11
 ne : o9 ≠ o11
theorem loop33l {k : Nat} {xs : List Int} {bs : List Bool} (hG : Good k xs bs) {H0 : AHeap} {prot s : Nat} (hs : s < bs.length) {x8 x10 : Int} {vN vA x9 x11 : Value} {o9 o11 : Nat} {S : Nat → Bool} : ∀ (d l : Nat) (M : Nat → Bool) (H : AHeap), l + d = k → S33 k xs bs H0 H vN vA x9 x11 o9 o11 S M →
  ∃ M' H', lpInf (lpOf cfg a33 2 prot H0) ([.pointer (some ⟨H0.length, 0, some 3⟩), .int .i64 x8, x9, .int .i64 x10, x11, .int .i64 s, .int .i64 l], H) = some (.exit 4, [.pointer (some ⟨H0.length, 0, some 3⟩), .int .i64 x8, x9, .int .i64 x10, x11, .int .i64 s], H') ∧ S33 k xs bs H0 H' vN vA x9 x11 o9 o11 S M' ∧
   ∀ t, M' t = true ↔ M t = true ∨ ∃ c, l ≤ c ∧ c < k ∧ tgt k xs s c = t
 | 0, l, M, H, hl, h => by
  obtain ⟨g0, _⟩ := fld3 h.b
  have hNl := h.a.n.len
  have hAl := h.a.a.len
  obtain ⟨_, _, rfl⟩ := h.h9.len
  obtain ⟨_, _, rfl⟩ := h.h11.len
  obtain ⟨_, _, rfl⟩ := hNl
  obtain ⟨_, _, rfl⟩ := hAl
  exact ⟨M, H, lp_last (f33_L2_1 g0 (by omega)), h, fun t => ⟨.inl, fun h => h.elim id fun ⟨c, h1, h2, _⟩ => by omega⟩⟩
 | d + 1, l, M, H, hl, h => by
  have hlk : l < k := by omega
  have hk8 := hG.k8
  obtain ⟨_, htl, _⟩ := tgt_lt hG hs hlk
  have h58 := c58 hG hs hlk H0.length H h.a.n (by obtain ⟨a, c, e⟩ := h.a.a.len; exact ⟨a, _, c, e⟩)
  obtain ⟨g0, _, _, g3⟩ := fld3 h.b
  obtain ⟨_, H2, e, s1, s2, s3, s4, s5⟩ := own_setS T23 h.h11 (i := tgt k xs s l) (j := 0) htl (vs := [.bool true]) (by simp) rfl (prot := H0.length) (fun id hh => by cases hh; have := h.l11; omega)
  cases e
  rw [bl_put htl] at s3
  have lb := (List.getElem?_eq_some_iff.1 h.b).1
  have lo := h.l11
  have st' : S33 k xs bs H0 H2 vN vA x9 x11 o9 o11 S (orS M (tgt k xs s l)) :=
   ⟨by rw [s4.2 _ lb (fun e => by have := Option.some.inj e; omega)]; exact h.b, ⟨h.a.n.stayLow h.ln s4 (fun id e => by cases e; omega), h.a.a.stayLow h.la s4 (fun id e => by cases e; omega)⟩, h.ln, h.la, h.h9.stay s4 (fun id e1 e2 => by cases e1; exact h.ne (Option.some.inj e2).symm), s3, h.l9, h.l11, h.ne⟩
  obtain ⟨M', H', z1, z2, z3⟩ := loop33l hG hs (prot := prot) (x8 := x8) (x10 := x10) d (l + 1) _ H2 (by omega) st'
  refine ⟨M', H', ?_, z2, fun t => ?_⟩
  ·have hNl := h.a.n.len
   have hAl := h.a.a.len
   obtain ⟨_, _, rfl⟩ := h.h9.len
   obtain ⟨_, _, rfl⟩ := h.h11.len
   obtain ⟨_, _, rfl⟩ := hNl
   obtain ⟨_, _, rfl⟩ := hAl
   exact lp_next (f33_L2_0 g0 (by omega) g3 h58 s1 rfl s2 (fit64 (by omega) (by omega))) z1
  ·rw [z3]
   unfold orS
   rw [Bool.or_eq_true, decide_eq_true_eq]
   constructor
   ·rintro ((h1 | h1) | ⟨c, c1, c2, c3⟩)
    ·exact .inl h1
    ·exact .inr ⟨l, by omega, hlk, h1.symm⟩
    ·exact .inr ⟨c, by omega, c2, c3⟩
   ·rintro (h1 | ⟨c, c1, c2, c3⟩)
    ·exact .inl (.inl h1)
    ·by_cases e : c = l
     ·subst e; exact .inl (.inr c3.symm)
     ·exact .inr ⟨c, by omega, c2, c3⟩
open Classical in
theorem loop33s {k : Nat} {xs : List Int} {bs : List Bool} (hG : Good k xs bs) {H0 : AHeap} {prot : Nat} {x10 : Int} {vN vA x9 x11 : Value} {o9 o11 : Nat} {S : Nat → Bool} : ∀ (d s : Nat) (b : Int) (M : Nat → Bool) (H : AHeap), s + d = bs.length → S33 k xs bs H0 H vN vA x9 x11 o9 o11 S M →
  ∃ M' H', lpInf (lpOf cfg a33 1 prot H0) ([.pointer (some ⟨H0.length, 0, some 3⟩), .int .i64 b, x9, .int .i64 x10, x11, .int .i64 s], H) = some (.exit 2, [.pointer (some ⟨H0.length, 0, some 3⟩), .int .i64 (if ∃ t, s ≤ t ∧ t < bs.length ∧ S t = true ∧ bs.getD t false = true then x10 else b), .int .i64 x10, x11], H') ∧ S33 k xs bs H0 H' vN vA x9 x11 o9 o11 S M' ∧
   ∀ t, M' t = true ↔ M t = true ∨ ∃ u, s ≤ u ∧ u < bs.length ∧ S u = true ∧ ∃ c, c < k ∧ tgt k xs u c = t
 | 0, s, b, M, H, hl, h => by
  rw [if_neg (by rintro ⟨t, h1, h2, _⟩; omega)]
  obtain ⟨_, _, rfl⟩ := h.h9.len
  obtain ⟨_, _, rfl⟩ := h.h11.len
  exact ⟨M, H, lp_last (f33_L1_3 (by omega)), h, fun t => ⟨.inl, fun h => h.elim id fun ⟨c, h1, h2, _⟩ => by omega⟩⟩
 | d + 1, s, b, M, H, hl, h => by
  have hsl : s < bs.length := by omega
  have hn5 := hG.n5
  obtain ⟨_, _, p1, p2⟩ := own_at T23 h.h9 (bl_get hsl)
  have fi : Fit .i64 ((s : Int) + 1) := fit64 (by omega) (by omega)
  cases hS : S s with
  | false =>
   rw [hS] at p2
   obtain ⟨M', H', z1, z2, z3⟩ := loop33s hG (prot := prot) (x10 := x10) d (s + 1) b M H (by omega) h
   refine ⟨M', H', ?_, z2, fun t => ?_⟩
   ·have heq : (∃ t, s ≤ t ∧ t < bs.length ∧ S t = true ∧ bs.getD t false = true) ↔ ∃ t, s + 1 ≤ t ∧ t < bs.length ∧ S t = true ∧ bs.getD t false = true := by
     constructor
     ·rintro ⟨t, h1, h2, h3, h4⟩
      refine ⟨t, ?_, h2, h3, h4⟩
      rcases Nat.lt_or_ge s t with h5 | h5
      ·omega
      ·have : t = s := by omega
       subst this; rw [hS] at h3; cases h3
     ·rintro ⟨t, h1, h2, h3⟩; exact ⟨t, by omega, h2, h3⟩
    simp only [heq]
    obtain ⟨_, _, rfl⟩ := h.h9.len
    obtain ⟨_, _, rfl⟩ := h.h11.len
    exact lp_next (f33_L1_2 (by omega) p1 p2 rfl fi) z1
   ·rw [z3]
    constructor
    ·rintro (h1 | ⟨u, h1, h2⟩)
     ·exact .inl h1
     ·exact .inr ⟨u, by omega, h2⟩
    ·rintro (h1 | ⟨u, h1, h2, h3, h4⟩)
     ·exact .inl h1
     ·rcases Nat.lt_or_ge s u with h5 | h5
      ·exact .inr ⟨u, by omega, h2, h3, h4⟩
      ·have : u = s := by omega
       subst this; rw [hS] at h3; cases h3
  | true =>
   rw [hS] at p2
   obtain ⟨_, _, g2, _⟩ := fld3 h.b
   obtain ⟨_, _, q1, q2⟩ := rd_at T23 h.a.a (bll_get hsl)
   have hbs : bs.getD s false = bs[s] := by rw [List.getD_eq_getElem?_getD, List.getElem?_eq_getElem hsl]; rfl
   have fin : ∀ (b' : Int), ∃ M' H', (∃ H1, lpInf (lpOf cfg a33 2 prot H0) ([.pointer (some ⟨H0.length, 0, some 3⟩), .int .i64 b', x9, .int .i64 x10, x11, .int .i64 s, .int .i64 0], H) = some (.exit 4, [.pointer (some ⟨H0.length, 0, some 3⟩), .int .i64 b', x9, .int .i64 x10, x11, .int .i64 s], H1) ∧
     lpInf (lpOf cfg a33 1 prot H0) ([.pointer (some ⟨H0.length, 0, some 3⟩), .int .i64 b', x9, .int .i64 x10, x11, .int .i64 ((s : Int) + 1)], H1) = some (.exit 2, [.pointer (some ⟨H0.length, 0, some 3⟩), .int .i64 (if ∃ t, s + 1 ≤ t ∧ t < bs.length ∧ S t = true ∧ bs.getD t false = true then x10 else b'), .int .i64 x10, x11], H')) ∧ S33 k xs bs H0 H' vN vA x9 x11 o9 o11 S M' ∧
     ∀ t, M' t = true ↔ M t = true ∨ ∃ u, s ≤ u ∧ u < bs.length ∧ S u = true ∧ ∃ c, c < k ∧ tgt k xs u c = t := fun b' => by
    obtain ⟨M1, H1, y1, y2, y3⟩ := loop33l hG hsl (prot := prot) (x8 := b') (x10 := x10) k 0 M H (by omega) h
    obtain ⟨M', H', z1, z2, z3⟩ := loop33s hG (prot := prot) (x10 := x10) d (s + 1) b' M1 H1 (by omega) y2
    refine ⟨M', H', ⟨H1, y1, z1⟩, z2, fun t => ?_⟩
    rw [z3, y3]
    constructor
    ·rintro ((h1 | ⟨c, _, c2, c3⟩) | ⟨u, h1, h2⟩)
     ·exact .inl h1
     ·exact .inr ⟨s, Nat.le_refl _, hsl, hS, c, c2, c3⟩
     ·exact .inr ⟨u, by omega, h2⟩
    ·rintro (h1 | ⟨u, h1, h2, h3, c, c2, c3⟩)
     ·exact .inl (.inl h1)
     ·rcases Nat.lt_or_ge s u with h5 | h5
      ·exact .inr ⟨u, by omega, h2, h3, c, c2, c3⟩
      ·have : u = s := by omega
       subst this
       exact .inl (.inr ⟨c, Nat.zero_le _, c2, c3⟩)
   cases hb : bs[s] with
   | true =>
    rw [hb] at q2 hbs
    obtain ⟨M', H', ⟨H1, y1, z1⟩, z2, z3⟩ := fin x10
    refine ⟨M', H', ?_, z2, z3⟩
    rw [if_pos ⟨s, Nat.le_refl _, hsl, hS, hbs⟩]
    have hx : (if ∃ t, s + 1 ≤ t ∧ t < bs.length ∧ S t = true ∧ bs.getD t false = true then x10 else x10) = x10 := by split <;> rfl
    rw [hx] at z1
    have hNl := h.a.n.len
    have hAl := h.a.a.len
    obtain ⟨_, _, rfl⟩ := h.h9.len
    obtain ⟨_, _, rfl⟩ := h.h11.len
    obtain ⟨_, _, rfl⟩ := hNl
    obtain ⟨_, _, rfl⟩ := hAl
    exact lp_next (f33_L1_0 (by omega) p1 p2 rfl g2 q1 q2 rfl y1 fi) z1
   | false =>
    rw [hb] at q2 hbs
    obtain ⟨M', H', ⟨H1, y1, z1⟩, z2, z3⟩ := fin b
    refine ⟨M', H', ?_, z2, z3⟩
    have heq : (∃ t, s ≤ t ∧ t < bs.length ∧ S t = true ∧ bs.getD t false = true) ↔ ∃ t, s + 1 ≤ t ∧ t < bs.length ∧ S t = true ∧ bs.getD t false = true := by
     constructor
     ·rintro ⟨t, h1, h2, h3, h4⟩
      refine ⟨t, ?_, h2, h3, h4⟩
      rcases Nat.lt_or_ge s t with h5 | h5
      ·omega
      ·have : t = s := by omega
       subst this; rw [hbs] at h4; cases h4
     ·rintro ⟨t, h1, h2, h3⟩; exact ⟨t, by omega, h2, h3⟩
    simp only [heq]
    have hNl := h.a.n.len
    have hAl := h.a.a.len
    obtain ⟨_, _, rfl⟩ := h.h9.len
    obtain ⟨_, _, rfl⟩ := h.h11.len
    obtain ⟨_, _, rfl⟩ := hNl
    obtain ⟨_, _, rfl⟩ := hAl
    exact lp_next (f33_L1_1 (by omega) p1 p2 rfl g2 q1 q2 rfl y1 fi) z1
/-- Is a word of this length accepted? -/
def Acc (k : Nat) (xs : List Int) (bs : List Bool) (m : Nat) : Prop := ∃ w, Wk k w ∧ w.length = m ∧ bs.getD (go k xs 0 w) false = true
/-- The greatest so far. -/
def Gst (k : Nat) (xs : List Int) (bs : List Bool) (i : Nat) (b : Int) : Prop := (b = -1 ∧ ∀ n, n < i → ¬ Acc k xs bs n) ∨ ∃ m : Nat, b = m ∧ m < i ∧ Acc k xs bs m ∧ ∀ n, m < n → n < i → ¬ Acc k xs bs n
theorem acc_iff {k : Nat} {xs : List Int} {bs : List Bool} (hG : Good k xs bs) {m : Nat} : (∃ t, 0 ≤ t ∧ t < bs.length ∧ SS k xs bs.length m t = true ∧ bs.getD t false = true) ↔ Acc k xs bs m := by
 have hn1 := hG.n1
 constructor
 ·rintro ⟨t, _, _, h1, h2⟩
  obtain ⟨w, w1, w2, w3⟩ := (SS_iff hG m t).1 h1
  exact ⟨w, w1, w2, by rw [w3]; exact h2⟩
 ·rintro ⟨w, w1, w2, w3⟩
  exact ⟨_, Nat.zero_le _, go_lt hG w 0 w1 (by omega), (SS_iff hG m _).2 ⟨w, w1, w2, rfl⟩, w3⟩
structure R33 (k : Nat) (xs : List Int) (bs : List Bool) (H0 H : AHeap) (vN vA x9 : Value) (o9 : Nat) (S : Nat → Bool) : Prop where
 b : H[H0.length]? = some (bx k vN vA)
 a : IsA H xs bs vN vA
 ln : Low H0.length vN
 la : Low H0.length vA
 h9 : Own H 4 1 x9 (some o9) bs.length (bll (bl S bs.length))
 l9 : H0.length < o9
theorem bl_congr {S M : Nat → Bool} {N : Nat} (h : ∀ s, s < N → S s = M s) : bl S N = bl M N := List.map_congr_left fun s hs => h s (List.mem_range.1 hs)
theorem loop33n {k : Nat} {xs : List Int} {bs : List Bool} (hG : Good k xs bs) {H0 : AHeap} {prot : Nat} {vN vA : Value} : ∀ (d i : Nat) (b : Int) (x9 : Value) (o9 : Nat) (H : AHeap), i + d = bs.length → R33 k xs bs H0 H vN vA x9 o9 (SS k xs bs.length i) → Gst k xs bs i b →
  ∃ b' H', lpInf (lpOf cfg a33 0 prot H0) ([.pointer (some ⟨H0.length, 0, some 3⟩), .int .i64 b, x9, .int .i64 i], H) = some (.exit 0, [.int .i64 b'], H') ∧ Gst k xs bs bs.length b'
 | 0, i, b, x9, o9, H, hi, h, hb => by
  have : i = bs.length := by omega
  subst this
  obtain ⟨_, _, g2, _⟩ := fld3 h.b
  have hNl := h.a.n.len
  have hAl := h.a.a.len
  obtain ⟨_, _, rfl⟩ := h.h9.len
  obtain ⟨_, _, rfl⟩ := hNl
  obtain ⟨_, _, rfl⟩ := hAl
  exact ⟨b, H, lp_last (f33_L0_1 g2 (by omega)), hb⟩
 | d + 1, i, b, x9, o9, H, hi, h, hb => by
  have hn1 := hG.n1
  have hn5 := hG.n5
  obtain ⟨HB, hHB⟩ : ∃ HB, HB = H ++ [AObj.cells (repCells [.bool false] bs.length) 4 (repCells [.bool false] bs.length).length .row] := ⟨_, rfl⟩
  have sB : Stay none H HB := by rw [hHB]; exact Stay.app none H _
  have m1 : Own HB 4 1 (.slice (some ⟨H.length, 0, some (bs.length * 1)⟩) bs.length bs.length) (some H.length) bs.length (bll (bl (fun _ => false) bs.length)) := by
   have hm := own_make (e := 4) (fun _ => .bool false) hn1 H (.bool false) rfl
   have : bll (bl (fun _ => false) bs.length) = (List.replicate bs.length 0).map (fun _ => Value.bool false) := by
    unfold bll bl
    rw [List.map_const', List.length_range, List.map_replicate, List.map_replicate]
   rw [hHB, this]
   exact hm
  have lb := (List.getElem?_eq_some_iff.1 h.b).1
  have lo9 := own_lt h.h9
  have st : S33 k xs bs H0 HB vN vA x9 (.slice (some ⟨H.length, 0, some (bs.length * 1)⟩) bs.length bs.length) o9 H.length (SS k xs bs.length i) (fun _ => false) :=
   ⟨by rw [sB.2 _ lb (by simp)]; exact h.b, h.a.stay sB, h.ln, h.la, h.h9.stay sB (fun _ _ e => by cases e), m1, h.l9, lb, by omega⟩
  obtain ⟨M', H1, y1, y2, y3⟩ := loop33s hG (prot := prot) (x10 := (i : Int)) bs.length 0 b _ HB (by omega) st
  have hM : bl M' bs.length = bl (SS k xs bs.length (i + 1)) bs.length := bl_congr fun s hs => by
   rw [Bool.eq_iff_iff, y3, SS, decide_eq_true_iff]
   constructor
   ·rintro (h1 | ⟨u, _, h2⟩)
    ·cases h1
    ·exact ⟨u, h2⟩
   ·rintro ⟨u, h2⟩; exact .inr ⟨u, Nat.zero_le _, h2⟩
  have st' : R33 k xs bs H0 H1 vN vA (.slice (some ⟨H.length, 0, some (bs.length * 1)⟩) bs.length bs.length) H.length (SS k xs bs.length (i + 1)) :=
   ⟨y2.b, y2.a, y2.ln, y2.la, by rw [← hM]; exact y2.h11, y2.l11⟩
  have fi : Fit .i64 ((i : Int) + 1) := fit64 (by omega) (by omega)
  obtain ⟨_, _, g2, _⟩ := fld3 h.b
  have go1 : ∀ b1 : Int, Gst k xs bs (i + 1) b1 → (∃ H1', lpInf (lpOf cfg a33 1 prot H0) ([.pointer (some ⟨H0.length, 0, some 3⟩), .int .i64 b, x9, .int .i64 i, .slice (some ⟨H.length, 0, some (bs.length * 1)⟩) bs.length bs.length, .int .i64 0], HB) = some (.exit 2, [.pointer (some ⟨H0.length, 0, some 3⟩), .int .i64 b1, .int .i64 i, .slice (some ⟨H.length, 0, some (bs.length * 1)⟩) bs.length bs.length], H1') ∧ R33 k xs bs H0 H1' vN vA (.slice (some ⟨H.length, 0, some (bs.length * 1)⟩) bs.length bs.length) H.length (SS k xs bs.length (i + 1))) →
    ∃ b' H', lpInf (lpOf cfg a33 0 prot H0) ([.pointer (some ⟨H0.length, 0, some 3⟩), .int .i64 b, x9, .int .i64 i], H) = some (.exit 0, [.int .i64 b'], H') ∧ Gst k xs bs bs.length b' := fun b1 hb1 ⟨H1', w1, w2⟩ => by
   obtain ⟨b', H', z1, z2⟩ := loop33n hG (prot := prot) d (i + 1) b1 _ _ H1' (by omega) w2 hb1
   refine ⟨b', H', ?_, z2⟩
   have hNl := h.a.n.len
   have hAl := h.a.a.len
   obtain ⟨_, _, rfl⟩ := h.h9.len
   obtain ⟨_, _, rfl⟩ := hNl
   obtain ⟨_, _, rfl⟩ := hAl
   subst hHB
   exact lp_next (f33_L0_0 g2 (by omega) (by omega) rfl (by omega) (by omega) w1 fi) z1
  by_cases hc : Acc k xs bs i
  ·refine go1 i (.inr ⟨i, rfl, by omega, hc, fun n h1 h2 => by omega⟩) ⟨H1, ?_, st'⟩
   rw [if_pos ((acc_iff hG).2 hc)] at y1
   exact y1
  ·refine go1 b ?_ ⟨H1, ?_, st'⟩
   ·rcases hb with ⟨e, h1⟩ | ⟨m, e, h1, h2, h3⟩
    ·refine .inl ⟨e, fun n hn => ?_⟩
     by_cases en : n = i
     ·subst en; exact hc
     ·exact h1 n (by omega)
    ·refine .inr ⟨m, e, by omega, h2, fun n h4 h5 => ?_⟩
     by_cases en : n = i
     ·subst en; exact hc
     ·exact h3 n h4 (by omega)
   ·rw [if_neg (fun h => hc ((acc_iff hG).1 h))] at y1
    exact y1
theorem c33 {k : Int} {xs : List Int} {bs : List Bool} {vN vA : Value} (prot : Nat) (H : AHeap) (hA : IsA H xs bs vN vA) :
  callInf cfg 33 [av k vN vA] prot H = some (.tuple #[.int .i64 (longV k xs bs).1, .bool (longV k xs bs).2, .int .i64 (chkG k xs bs)], H) := by
 have hck := c41 (k := k) H.length (H ++ [bx k vN vA]) (hA.stay (Stay.app none H _))
 have hg : (H ++ [bx k vN vA])[H.length]? = some (bx k vN vA) := append_get.1
 have lN := hA.n.low
 have lA := hA.a.low
 obtain ⟨aN, cN, hNe⟩ := hA.n.len
 obtain ⟨aA, cA, hAe⟩ := hA.a.len
 subst hNe; subst hAe
 obtain ⟨_, _, _, g3⟩ := fld3 hg
 unfold longV
 by_cases h0 : chkG k xs bs = 0
 ·obtain ⟨k, rfl, hG⟩ := good_of h0
  rw [Int.toNat_natCast]
  rw [h0] at hck ⊢
  have hb1 := hG.n1
  have hb5 := hG.n5
  obtain ⟨HX, hHX⟩ : ∃ HX, HX = H ++ [bx (k : Int) (.slice aN xs.length cN) (.slice aA bs.length cA)] := ⟨_, rfl⟩
  have lX : HX.length = H.length + 1 := by rw [hHX]; simp
  have sX : Stay none H HX := by rw [hHX]; exact Stay.app none H _
  have hgX : HX[H.length]? = some (bx (k : Int) (.slice aN xs.length cN) (.slice aA bs.length cA)) := by rw [hHX]; exact hg
  have h42 := c42 hG H.length HX (hA.stay sX)
  obtain ⟨HP, hHP⟩ : ∃ HP, HP = HX ++ [vo [.string { data := { toList := [] } }, .string { data := { toList := [] } }, .string { data := { toList := [] } }] 29] := ⟨_, rfl⟩
  have lP : HP.length = H.length + 2 := by rw [hHP]; simp; omega
  have gP : HP[HX.length]? = some (.cells [.string { data := { toList := [] } }, .string { data := { toList := [] } }, .string { data := { toList := [] } }] 29 3 .var) := by rw [hHP]; exact append_get.1
  obtain ⟨H1, hH1⟩ : ∃ H1, H1 = HP.set HX.length (.cells [.string (boundV k xs bs).2.1, .string (boundV k xs bs).2.2.1, .string (boundV k xs bs).2.2.2] 29 3 .var) := ⟨_, rfl⟩
  have s1 : Stay (some HX.length) HP H1 := by rw [hH1]; exact set_stay
  have e1 : setCells HP H.length HX.length 3 0 [.string (boundV k xs bs).2.1, .string (boundV k xs bs).2.2.1, .string (boundV k xs bs).2.2.2] = some H1 := by rw [hH1]; exact arr_put gP rfl (by omega) rfl rfl
  have sP : Stay none HX HP := by rw [hHP]; exact Stay.app none HX _
  have sX1 : Stay none HX H1 := sP.over s1 (fun id e => by have := Option.some.inj e; omega)
  have l1 : H1.length = H.length + 2 := by rw [hH1, List.length_set, lP]
  have st1 := sX.trans sX1
  have hg1 : H1[H.length]? = some (bx (k : Int) (.slice aN xs.length cN) (.slice aA bs.length cA)) := by rw [sX1.2 _ (by omega) (by simp)]; exact hgX
  obtain ⟨_, _, g21, _⟩ := fld3 hg1
  by_cases hf : (boundV k xs bs).1 = true
  ·obtain ⟨HB, hHB⟩ : ∃ HB, HB = H1 ++ [AObj.cells (repCells [.bool false] bs.length) 4 (repCells [.bool false] bs.length).length .row] := ⟨_, rfl⟩
   have sB : Stay none H1 HB := by rw [hHB]; exact Stay.app none H1 _
   have m1 : Own HB 4 1 (.slice (some ⟨H1.length, 0, some (bs.length * 1)⟩) bs.length bs.length) (some H1.length) bs.length (bll (bl (fun _ => false) bs.length)) := by
    have hm := own_make (e := 4) (fun _ => .bool false) hb1 H1 (.bool false) rfl
    have : bll (bl (fun _ => false) bs.length) = (List.replicate bs.length 0).map (fun _ => Value.bool false) := by
     unfold bll bl
     rw [List.map_const', List.length_range, List.map_replicate, List.map_replicate]
    rw [hHB, this]
    exact hm
   obtain ⟨_, H2, e2, s21, s22, s23, s24, s25⟩ := own_setS T23 m1 (i := 0) (j := 0) hb1 (vs := [.bool true]) (by simp) rfl (prot := H.length) (fun id hh => by cases hh; omega)
   cases e2
   rw [bl_put hb1] at s23
   have hbl : bl (orS (fun _ => false) 0) bs.length = bl (SS k xs bs.length 0) bs.length := bl_congr fun s _ => by
    rw [SS]; simp [orS]
   rw [hbl] at s23
   have st2 : Stay none H H2 := (st1.trans sB).over s24 (fun id e => by cases e; omega)
   have hgB : HB[H.length]? = some (bx (k : Int) (.slice aN xs.length cN) (.slice aA bs.length cA)) := by rw [sB.2 _ (by omega) (by simp)]; exact hg1
   have hlB := sB.1
   have st : R33 k xs bs H H2 (.slice aN xs.length cN) (.slice aA bs.length cA) (.slice (some ⟨H1.length, 0, some (bs.length * 1)⟩) bs.length bs.length) H1.length (SS k xs bs.length 0) :=
    ⟨by rw [s24.2 _ (by omega) (fun e => by have := Option.some.inj e; omega)]; exact hgB, hA.stay st2, lN, lA, s23, by omega⟩
   obtain ⟨b', H3, z1, z2⟩ := loop33n hG (prot := prot) bs.length 0 (-1) _ _ H2 (by omega) st (.inl ⟨rfl, fun n hn => by omega⟩)
   by_cases hu : uB k xs bs 0 = true
   ·rw [if_pos ⟨rfl, hf, hu⟩]
    have hlt := (hU_edges hG hf).lt 0 hb1
    obtain ⟨w, w1, w2, w3⟩ := high_word hG hf (hU k xs bs 0) 0 hu rfl
    have hmax : ∀ n, Acc k xs bs n → n ≤ hU k xs bs 0 := fun n ⟨w, w1, w2, w3⟩ => by
     rw [← w2]; exact word_high hG hf w 0 hu w1 w3
    have hb' : b' = ((hU k xs bs 0 : Nat) : Int) := by
     rcases z2 with ⟨_, h1⟩ | ⟨m, e, h1, h2, h3⟩
     ·exact absurd ⟨w, w1, w2, w3⟩ (h1 _ hlt)
     ·have := hmax m h2
      rcases Nat.lt_or_ge m (hU k xs bs 0) with h4 | h4
      ·exact absurd ⟨w, w1, w2, w3⟩ (h3 _ h4 hlt)
      ·omega
    subst hb'
    subst hHB; subst hHP; subst hHX
    exact f33_F_2 all3 g3 hck rfl g3 h42 rfl e1 (by simp [hf]) g21 (by omega) rfl (by omega) (by omega) s21 rfl s22 z1 (by omega)
   ·rw [if_neg (fun h => hu h.2.2)]
    have hno : ∀ n, ¬ Acc k xs bs n := fun n ⟨w, w1, w2, w3⟩ => hu ((uB_iff hG).2 ⟨hb1, ⟨[], fun c h => absurd h (by simp), rfl⟩, w, w1, w3⟩)
    have hb' : b' = -1 := by
     rcases z2 with ⟨e, _⟩ | ⟨m, _, _, h2, _⟩
     ·exact e
     ·exact absurd h2 (hno m)
    subst hb'
    subst hHB; subst hHP; subst hHX
    exact f33_F_1 all3 g3 hck rfl g3 h42 rfl e1 (by simp [hf]) g21 (by omega) rfl (by omega) (by omega) s21 rfl s22 z1 (by omega)
  ·rw [if_neg (fun h => hf h.2.1)]
   subst hHP; subst hHX
   exact f33_F_3 all3 g3 hck rfl g3 h42 rfl e1 (by simpa using hf)
 ·rw [if_neg (fun h => h0 h.1)]
  exact f33_F_0 all3 g3 hck (by simpa using h0)
end Go.Proofs.Ythjkodbinkiifaa.Am23
namespace Go.Proofs.Ythjkodbinkiifaa.Am23
open Go Go.Proofs.Ythjkodbinkiifaa.Am

end Go.Proofs.Ythjkodbinkiifaa.Am23
namespace Go.Proofs.Ythjkodbinkiifaa.Am
open Go

end Go.Proofs.Ythjkodbinkiifaa.Am
set_option linter.unusedVariables false
open Go Go.Proofs.Ythjkodbinkiifaa.Am
namespace Go.Proofs.Ythjkodbinkiifaa.Am23
end Go.Proofs.Ythjkodbinkiifaa.Am23
namespace Go.Proofs.Ythjkodbinkiifaa.Am23
open Go Go.Proofs.Ythjkodbinkiifaa.Am

end Go.Proofs.Ythjkodbinkiifaa.Am23
set_option linter.unusedVariables false
open Go Go.Proofs.Ythjkodbinkiifaa.Am
namespace Go.Proofs.Ythjkodbinkiifaa.Am23
section
variable {x0a x1 x22a x23a x25a x27a x27b x31a x32a x32c x37a x38a x38c x43a x45a x45b x49a x50a x50c x55a x56a x56c x65 x81 x97 x102a x103a : Int}
variable {x0ba x0ca x22ba x22ca x23ba x23ca x25ba x25ca x31ba x31ca x37ba x37ca x43ba x43ca x49ba x49ca x55ba x55ca x102ba x102ca x103ba x103ca : Option Addr}
variable {x0bn x0bc x0cn x0cc prot x22bn x22bc x22cn x22cc x23bn x23bc x23cn x23cc x25bn x25bc x25cn x25cc x31bn x31bc x31cn x31cc x37bn x37bc x37cn x37cc x43bn x43bc x43cn x43cc x49bn x49bc x49cn x49cc x55bn x55bc x55cn x55cc x102bn x102bc x102cn x102cc x103bn x103bc x103cn x103cc : Nat}
variable {H H1 H2 : AHeap}
variable {x32b x38b x50b x56b x104 x107 : Bool}
theorem f9_F_0 (h1 : [vI x0a, vS x0ba x0bn x0bc, vS x0ca x0cn x0cc].all isCell = true) (h2 : getCells (H ++ [vo [vI x0a, vS x0ba x0bn x0bc, vS x0ca x0cn x0cc] 25]) H.length 3 0 3 = some [vI x22a, vS x22ba x22bn x22bc, vS x22ca x22cn x22cc]) (h3 : cI 17 [Value.agg #[vI x22a, vS x22ba x22bn x22bc, vS x22ca x22cn x22cc]] H.length (H ++ [vo [vI x0a, vS x0ba x0bn x0bc, vS x0ca x0cn x0cc] 25]) = some (Value.agg #[vI x23a, vS x23ba x23bn x23bc, vS x23ca x23cn x23cc], H1)) (h4 : 3 = 3) (h5 : setCells (H1 ++ [vo [vI 0, vS none 0 0, vS none 0 0] 25]) H.length H1.length 3 0 [vI x23a, vS x23ba x23bn x23bc, vS x23ca x23cn x23cc] = some H2) (h6 : getCells H2 H1.length 3 0 3 = some [vI x25a, vS x25ba x25bn x25bc, vS x25ca x25cn x25cc]) (h7 : cI 14 [Value.agg #[vI x25a, vS x25ba x25bn x25bc, vS x25ca x25cn x25cc], vI x1] H.length H2 = some (Value.tuple #[Value.int .u64 x27a, vI x27b], H2)) (h8 : getCells H2 H1.length 3 0 3 = some [vI x31a, vS x31ba x31bn x31bc, vS x31ca x31cn x31cc]) (h9 : cI 30 [Value.agg #[vI x31a, vS x31ba x31bn x31bc, vS x31ca x31cn x31cc]] H.length H2 = some (Value.tuple #[vI x32a, Value.bool x32b, vI x32c], H2)) (h10 : getCells H2 H1.length 3 0 3 = some [vI x37a, vS x37ba x37bn x37bc, vS x37ca x37cn x37cc]) (h11 : cI 31 [Value.agg #[vI x37a, vS x37ba x37bn x37bc, vS x37ca x37cn x37cc]] H.length H2 = some (Value.tuple #[vI x38a, Value.bool x38b, vI x38c], H2)) (h12 : getCells H2 H.length 3 0 3 = some [vI x43a, vS x43ba x43bn x43bc, vS x43ca x43cn x43cc]) (h13 : cI 32 [Value.agg #[vI x43a, vS x43ba x43bn x43bc, vS x43ca x43cn x43cc], vI x1] H.length H2 = some (Value.tuple #[Value.int .u64 x45a, vI x45b], H2)) (h14 : getCells H2 H.length 3 0 3 = some [vI x49a, vS x49ba x49bn x49bc, vS x49ca x49cn x49cc]) (h15 : cI 33 [Value.agg #[vI x49a, vS x49ba x49bn x49bc, vS x49ca x49cn x49cc]] H.length H2 = some (Value.tuple #[vI x50a, Value.bool x50b, vI x50c], H2)) (h16 : getCells H2 H.length 3 0 3 = some [vI x55a, vS x55ba x55bn x55bc, vS x55ca x55cn x55cc]) (h17 : cI 34 [Value.agg #[vI x55a, vS x55ba x55bn x55bc, vS x55ca x55cn x55cc]] H.length H2 = some (Value.tuple #[vI x56a, Value.bool x56b, vI x56c], H2)) (h18 : (x27a == x45a) = true) (h19 : cI 15 [vI x27b] H.length H2 = some (vI x65, H2)) (h20 : (x65 == x45b) = true) (h21 : (x32a == x50a) = true) (h22 : (x32b == x50b) = true) (h23 : cI 15 [vI x32c] H.length H2 = some (vI x81, H2)) (h24 : (x81 == x50c) = true) (h25 : (x38a == x56a) = true) (h26 : (x38b == x56b) = true) (h27 : cI 15 [vI x38c] H.length H2 = some (vI x97, H2)) (h28 : (x97 == x56c) = true) (h29 : getCells H2 H1.length 3 0 3 = some [vI x102a, vS x102ba x102bn x102bc, vS x102ca x102cn x102cc]) (h30 : getCells H2 H.length 3 0 3 = some [vI x103a, vS x103ba x103bn x103bc, vS x103ca x103cn x103cc]) (h31 : cI 21 [Value.agg #[vI x102a, vS x102ba x102bn x102bc, vS x102ca x102cn x102cc], Value.agg #[vI x103a, vS x103ba x103bn x103bc, vS x103ca x103cn x103cc]] H.length H2 = some (Value.bool x104, H2)) (h32 : x104 = true) (h33 : cI 12 [] H.length H2 = some (Value.bool x107, H2)) : callInf cfg 9 [.agg #[.int .i64 x0a, .slice x0ba x0bn x0bc, .slice x0ca x0cn x0cc], .int .i64 x1] prot H = some (Value.bool x107, H) :=
 fn_of2 a9 [.e, .v (.agg #[vI x22a, vS x22ba x22bn x22bc, vS x22ca x22cn x22cc]), .r (.agg #[vI x23a, vS x23ba x23bn x23bc, vS x23ca x23cn x23cc]) H1, .e, .h H2, .v (.agg #[vI x25a, vS x25ba x25bn x25bc, vS x25ca x25cn x25cc]), .v (.tuple #[.int .u64 x27a, vI x27b]), .v (.agg #[vI x31a, vS x31ba x31bn x31bc, vS x31ca x31cn x31cc]), .v (.tuple #[vI x32a, .bool x32b, vI x32c]), .v (.agg #[vI x37a, vS x37ba x37bn x37bc, vS x37ca x37cn x37cc]), .v (.tuple #[vI x38a, .bool x38b, vI x38c]), .v (.agg #[vI x43a, vS x43ba x43bn x43bc, vS x43ca x43cn x43cc]), .v (.tuple #[.int .u64 x45a, vI x45b]), .v (.agg #[vI x49a, vS x49ba x49bn x49bc, vS x49ca x49cn x49cc]), .v (.tuple #[vI x50a, .bool x50b, vI x50c]), .v (.agg #[vI x55a, vS x55ba x55bn x55bc, vS x55ca x55cn x55cc]), .v (.tuple #[vI x56a, .bool x56b, vI x56c]), .e, .b true, .b true, .v (vI x65), .b true, .b true, .e, .b true, .b true, .b true, .b true, .e, .b true, .b true, .b true, .b true, .e, .b true, .b true, .b true, .v (vI x81), .b true, .b true, .e, .b true, .b true, .b true, .b true, .e, .b true, .b true, .b true, .b true, .e, .b true, .b true, .b true, .v (vI x97), .b true, .b true, .e, .b true, .b true, .v (.agg #[vI x102a, vS x102ba x102bn x102bc, vS x102ca x102cn x102cc]), .b true, .v (.agg #[vI x103a, vS x103ba x103bn x103bc, vS x103ca x103cn x103cc]), .b true, .v (.bool x104), .b true, .b true, .v (.bool x107), .b true] (ai h1 (ai h2 (ai h3 (ai h4 (ai h5 (ai h6 (ai h7 (ai h8 (ai h9 (ai h10 (ai h11 (ai h12 (ai h13 (ai h14 (ai h15 (ai h16 (ai h17 (ai h18 (ai h18 (ai h19 (ai h18 (ai h18 (ai h18 (ai h20 (ai h20 (ai h20 (ai h20 (ai h21 (ai h21 (ai h21 (ai h21 (ai h22 (ai h22 (ai h23 (ai h22 (ai h22 (ai h22 (ai h24 (ai h24 (ai h24 (ai h24 (ai h25 (ai h25 (ai h25 (ai h25 (ai h26 (ai h26 (ai h27 (ai h26 (ai h26 (ai h26 (ai h28 (ai h29 (ai h28 (ai h30 (ai h28 (ai h31 (ai h28 (ai h32 (ai h33 (ai h32 (Eq.refl ((Value.bool x107, H) : Value × AHeap))))))))))))))))))))))))))))))))))))))))))))))))))))))))))))))) (by kernel_rfl) rfl
end
end Go.Proofs.Ythjkodbinkiifaa.Am23
namespace Go.Proofs.Ythjkodbinkiifaa.Am23
open Go Go.Proofs.Ythjkodbinkiifaa.Am
theorem law9 {k : Int} {xs : List Int} {bs : List Bool} {vN vA : Value} (n : Int) (prot : Nat) (H : AHeap) (hA : IsA H xs bs vN vA) (hn : xs.length * 8 + 16 ≤ 140737488355328) (hb : bs.length ≤ 140737488355328) :
  callInf cfg 9 [av k vN vA, .int .i64 n] prot H = some (.bool true, H) := by
 obtain ⟨HX, hHX⟩ : ∃ HX, HX = H ++ [bx k vN vA] := ⟨_, rfl⟩
 have lX : HX.length = H.length + 1 := by rw [hHX]; simp
 have sX : Stay none H HX := by rw [hHX]; exact Stay.app none H _
 have hgX : HX[H.length]? = some (bx k vN vA) := by rw [hHX]; exact append_get.1
 have hAX := hA.stay sX
 obtain ⟨wN, wA, H1, r1, r2, r3⟩ := c17 (k := k) hn hb H.length HX hAX
 have l1 := r3.1
 obtain ⟨H2, u1, _, u3, u4⟩ := set3s (append_get.1 : (H1 ++ [AObj.cells [.int .i64 0, .slice none 0 0, .slice none 0 0] 25 3 .var])[H1.length]? = _) (show H.length ≤ H1.length by omega) (x := .int .i64 k) (y := wN) (z := wA) (by obtain ⟨_, _, rfl⟩ := r2.n.len; obtain ⟨_, _, rfl⟩ := r2.a.len; rfl)
 have s2 : Stay none H1 H2 := (Stay.app none H1 _).over u3 (fun id h => by have := Option.some.inj h; omega)
 have l2 := s2.1
 have w2 := r2.stay s2
 have sX2 := r3.trans s2
 have hA2 := hAX.stay sX2
 have e14 := c14 (k := k) (n := n) H.length H2 w2
 have e30 := c30 (k := k) H.length H2 w2
 have e31 := c31 (k := k) H.length H2 w2
 have e32 := c32 (k := k) (n := n) H.length H2 hA2
 have e33 := c33 (k := k) H.length H2 hA2
 have e34 := c34 (k := k) H.length H2 hA2
 have h21 := c21 (k := k) (xs := xs) (bs := bs) (by omega) (by omega) H.length H2 w2 hA2
 have hk := cKnows H.length H2
 have g2 : H2[H.length]? = some (bx k vN vA) := by rw [sX2.2 _ (by omega) (by simp)]; exact hgX
 obtain ⟨aN, cN, rfl⟩ := hA.n.len
 obtain ⟨aA, cA, rfl⟩ := hA.a.len
 obtain ⟨_, _, rfl⟩ := r2.n.len
 obtain ⟨_, _, rfl⟩ := r2.a.len
 obtain ⟨_, _, _, gX⟩ := fld3 hgX
 obtain ⟨_, _, _, f2⟩ := fld3 u4
 obtain ⟨_, _, _, f4⟩ := fld3 g2
 subst hHX
 exact f9_F_0 all3 gX r1 rfl u1 f2 e14 f2 e30 f2 e31 f4 e32 f4 e33 f4 e34 (by simp) f15_F_0 (by simp) (by simp) (by simp) f15_F_0 (by simp) (by simp) (by simp) f15_F_0 (by simp) f2 f4 h21 rfl hk
end Go.Proofs.Ythjkodbinkiifaa.Am23
