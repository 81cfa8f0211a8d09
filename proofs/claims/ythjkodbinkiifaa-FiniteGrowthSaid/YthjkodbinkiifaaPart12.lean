/- A part of the proof of a given statement: P23_37, Sp23_C37, P23_16, Sp23_Other, P23_13, Sp23_C13, AmGrow, P23_17, P23_39, Sp23_C17, P23_4, P23_15, Law23_4, P23_40, P23_18, Sp23_C18, P23_21, P23_43, Sp23_C21, AmConv, P23_58, P23_66, Sp23_C66, AmStk, AmArr, P23g_72, P23g_76, S23g_A, S23g_R, P23g_79, P23g_80, S23g_B, P23g_74, P23g_73, P23g_56, S23g_C, S23g_D, S23g_Srt, AmOwnE, AmApart, S23g_X, S23g_Tu, S23g_Tv, S23g_Ap, P23_54, Sp23_C54, AmSet, AmLow, AmHt, P23_55. No condition. -/
import Derived.Test.YthjkodbinkiifaaPart11
set_option linter.unusedVariables false
open Go Go.Proofs.Ythjkodbinkiifaa.Am
namespace Go.Proofs.Ythjkodbinkiifaa.Am23
section
variable {x0a x17a x20a z7 x90a x96a z7_2 z15 x7 x25 x26 x35a x15 x103 x104 : Int}
variable {x0ba x0ca x17ba x17ca x18a x20ba x20ca x21aa x21ba z5a x90ba x90ca x92aa x92ba x96ba x96ca x98aa x98ba x102a z5a_2 z11a z13a x4a x5a x35ba x35ca x37aa x37ba x11a x13a x14a x108a : Option Addr}
variable {x0bn x0bc x0cn x0cc prot x17bn x17bc x17cn x17cc x18n x18c x20bn x20bc x20cn x20cc x21an x21ac x21bn x21bc z1p z1o z1l z3p z3o z3l z5n z5c x90bn x90bc x90cn x90cc x92an x92ac x92bn x92bc x96bn x96bc x96cn x96cc x98an x98ac x98bn x98bc x102n x102c z3p_2 z3o_2 z3l_2 z5n_2 z5c_2 z11n z11c z13n z13c x163p x163o x163l x167p x167o x167l x171p x171o x171l x1p x1o x1l x3p x3o x3l x4n x4c x5n x5c x31p x31o x31l x35bn x35bc x35cn x35cc x37an x37ac x37bn x37bc x42p x42o x42l x50p x50o x50l x55p x55o x55l x63p x63o x63l x68p x68o x68l x75p x75o x75l x79p x79o x79l x11n x11c x13n x13c x14n x14c x108n x108c x110p x110o x110l x115p x115o x115l x124p x124o x124l x129p x129o x129l x137p x137o x137l x142p x142o x142l x149p x149o x149l x153p x153o x153l : Nat}
variable {H H1 H2 H3 H4 H5 H6 H7 H0 : AHeap}
variable {wa wb wc x164 x168 x172 x51 x56 x64 x69 x76 x80 x125 x130 x138 x143 x150 x154 : ByteArray}
variable {x32 x43 x111 x116 : Bool}
theorem f37_F_0 (h1 : [vI x0a, vS x0ba x0bn x0bc, vS x0ca x0cn x0cc].all isCell = true) (h2 : getCells (H ++ [vo [vI x0a, vS x0ba x0bn x0bc, vS x0ca x0cn x0cc] 25] ++ [vo [vE, vE, vE] 29]) H.length 3 0 3 = some [vI x17a, vS x17ba x17bn x17bc, vS x17ca x17cn x17cc]) (h3 : cI 53 [Value.agg #[vI x17a, vS x17ba x17bn x17bc, vS x17ca x17cn x17cc]] H.length (H ++ [vo [vI x0a, vS x0ba x0bn x0bc, vS x0ca x0cn x0cc] 25] ++ [vo [vE, vE, vE] 29]) = some (vS x18a x18n x18c, H1)) (h4 : getCells H1 H.length 3 0 3 = some [vI x20a, vS x20ba x20bn x20bc, vS x20ca x20cn x20cc]) (h5 : cI 65 [Value.agg #[vI x20a, vS x20ba x20bn x20bc, vS x20ca x20cn x20cc], vI 0, Value.bool true] H.length H1 = some (Value.tuple #[vS x21aa x21an x21ac, vS x21ba x21bn x21bc], H2)) (h6 : lI a37 0 prot H ([vP H.length 0 3, Value.pointer (some ⟨List.length (H ++ [vo [vI x0a, vS x0ba x0bn x0bc, vS x0ca x0cn x0cc] 25]), 0, some 3⟩), vS x18a x18n x18c, vS x21aa x21an x21ac, vI (-1), vI (↑x18n : Int), vI 0], H2) = some (Ex.exit 0, [vP z1p z1o z1l, vP z3p z3o z3l, vS z5a z5n z5c, vI z7], H3)) (h7 : z7 < 0) (h8 : 3 = 3) (h9 : setCells H3 H.length z3p z3l z3o [vE, vE, vE] = some H4) (h10 : getCells H4 z3p z3l z3o 3 = some [Value.string wa, Value.string wb, Value.string wc]) : callInf cfg 37 [.agg #[.int .i64 x0a, .slice x0ba x0bn x0bc, .slice x0ca x0cn x0cc]] prot H = some (Value.tuple { toList := [Value.bool true, Value.agg { toList := [Value.string wa, Value.string wb, Value.string wc] }] }, H) :=
 fn_of2 a37 [.e, .e, .v (.agg #[vI x17a, vS x17ba x17bn x17bc, vS x17ca x17cn x17cc]), .r (vS x18a x18n x18c) H1, .v (.agg #[vI x20a, vS x20ba x20bn x20bc, vS x20ca x20cn x20cc]), .r (.tuple #[vS x21aa x21an x21ac, vS x21ba x21bn x21bc]) H2, .e, .lo (.exit 0, [vP z1p z1o z1l, vP z3p z3o z3l, vS z5a z5n z5c, vI z7], H3), .e, .b true, .e, .h H4, .v (.agg #[.string wa, .string wb, .string wc])] (ai h1 (ai h2 (ai h3 (ai h4 (ai h5 (ai h6 (ai (decide_eq_true h7) (ai h8 (ai h9 (ai h10 (Eq.refl ((Value.tuple #[Value.bool true, Value.agg #[Value.string wa, Value.string wb, Value.string wc]], H) : Value × AHeap)))))))))))) (by kernel_rfl) rfl
theorem f37_F_1 (h1 : [vI x0a, vS x0ba x0bn x0bc, vS x0ca x0cn x0cc].all isCell = true) (h2 : getCells (H ++ [vo [vI x0a, vS x0ba x0bn x0bc, vS x0ca x0cn x0cc] 25] ++ [vo [vE, vE, vE] 29]) H.length 3 0 3 = some [vI x17a, vS x17ba x17bn x17bc, vS x17ca x17cn x17cc]) (h3 : cI 53 [Value.agg #[vI x17a, vS x17ba x17bn x17bc, vS x17ca x17cn x17cc]] H.length (H ++ [vo [vI x0a, vS x0ba x0bn x0bc, vS x0ca x0cn x0cc] 25] ++ [vo [vE, vE, vE] 29]) = some (vS x18a x18n x18c, H1)) (h4 : getCells H1 H.length 3 0 3 = some [vI x20a, vS x20ba x20bn x20bc, vS x20ca x20cn x20cc]) (h5 : cI 65 [Value.agg #[vI x20a, vS x20ba x20bn x20bc, vS x20ca x20cn x20cc], vI 0, Value.bool true] H.length H1 = some (Value.tuple #[vS x21aa x21an x21ac, vS x21ba x21bn x21bc], H2)) (h6 : lI a37 0 prot H ([vP H.length 0 3, Value.pointer (some ⟨List.length (H ++ [vo [vI x0a, vS x0ba x0bn x0bc, vS x0ca x0cn x0cc] 25]), 0, some 3⟩), vS x18a x18n x18c, vS x21aa x21an x21ac, vI (-1), vI (↑x18n : Int), vI 0], H2) = some (Ex.exit 0, [vP z1p z1o z1l, vP z3p z3o z3l, vS z5a z5n z5c, vI z7], H3)) (h7 : ¬(z7 < 0)) (h8 : getCells H3 z1p z1l z1o 3 = some [vI x90a, vS x90ba x90bn x90bc, vS x90ca x90cn x90cc]) (h9 : cI 65 [Value.agg #[vI x90a, vS x90ba x90bn x90bc, vS x90ca x90cn x90cc], vI z7, Value.bool false] H.length H3 = some (Value.tuple #[vS x92aa x92an x92ac, vS x92ba x92bn x92bc], H4)) (h10 : getCells H4 z1p z1l z1o 3 = some [vI x96a, vS x96ba x96bn x96bc, vS x96ca x96cn x96cc]) (h11 : cI 65 [Value.agg #[vI x96a, vS x96ba x96bn x96bc, vS x96ca x96cn x96cc], vI z7, Value.bool true] H.length H4 = some (Value.tuple #[vS x98aa x98an x98ac, vS x98ba x98bn x98bc], H5)) (h12 : getCells H5 z1p z1l (z1o + 2) 1 = some [vS x102a x102n x102c]) (h13 : lI a37 1 prot H ([vP z1p z1o z1l, vP z3p z3o z3l, vS z5a z5n z5c, vI z7, vS x92aa x92an x92ac, vS x98aa x98an x98ac, vS x98ba x98bn x98bc, vI (-1), vI (↑x102n : Int), vI 0], H5) = some (Ex.exit 2, [vP z3p_2 z3o_2 z3l_2, vS z5a_2 z5n_2 z5c_2, vI z7_2, vS z11a z11n z11c, vS z13a z13n z13c, vI z15], H6)) (h14 : aX 43 (vS z5a_2 z5n_2 z5c_2) (vI z7_2) = some (vP x163p x163o x163l)) (h15 : getCells H6 x163p x163l x163o 1 = some [Value.string x164]) (h16 : aX 43 (vS z11a z11n z11c) (vI z7_2) = some (vP x167p x167o x167l)) (h17 : getCells H6 x167p x167l x167o 1 = some [Value.string x168]) (h18 : aX 43 (vS z13a z13n z13c) (vI z15) = some (vP x171p x171o x171l)) (h19 : getCells H6 x171p x171l x171o 1 = some [Value.string x172]) (h20 : 3 = 3) (h21 : setCells H6 H.length z3p_2 z3l_2 z3o_2 [Value.string x164, Value.string x168, Value.string x172] = some H7) (h22 : getCells H7 z3p_2 z3l_2 z3o_2 3 = some [Value.string wa, Value.string wb, Value.string wc]) : callInf cfg 37 [.agg #[.int .i64 x0a, .slice x0ba x0bn x0bc, .slice x0ca x0cn x0cc]] prot H = some (Value.tuple { toList := [Value.bool false, Value.agg { toList := [Value.string wa, Value.string wb, Value.string wc] }] }, H) :=
 fn_of2 a37 [.e, .e, .v (.agg #[vI x17a, vS x17ba x17bn x17bc, vS x17ca x17cn x17cc]), .r (vS x18a x18n x18c) H1, .v (.agg #[vI x20a, vS x20ba x20bn x20bc, vS x20ca x20cn x20cc]), .r (.tuple #[vS x21aa x21an x21ac, vS x21ba x21bn x21bc]) H2, .e, .lo (.exit 0, [vP z1p z1o z1l, vP z3p z3o z3l, vS z5a z5n z5c, vI z7], H3), .e, .b false, .v (.agg #[vI x90a, vS x90ba x90bn x90bc, vS x90ca x90cn x90cc]), .r (.tuple #[vS x92aa x92an x92ac, vS x92ba x92bn x92bc]) H4, .v (.agg #[vI x96a, vS x96ba x96bn x96bc, vS x96ca x96cn x96cc]), .r (.tuple #[vS x98aa x98an x98ac, vS x98ba x98bn x98bc]) H5, .v (vS x102a x102n x102c), .e, .lo (.exit 2, [vP z3p_2 z3o_2 z3l_2, vS z5a_2 z5n_2 z5c_2, vI z7_2, vS z11a z11n z11c, vS z13a z13n z13c, vI z15], H6), .v (vP x163p x163o x163l), .v (.string x164), .v (vP x167p x167o x167l), .v (.string x168), .v (vP x171p x171o x171l), .v (.string x172), .e, .h H7, .v (.agg #[.string wa, .string wb, .string wc])] (ai h1 (ai h2 (ai h3 (ai h4 (ai h5 (ai h6 (ai (decide_eq_false h7) (ai h8 (ai h9 (ai h10 (ai h11 (ai h12 (ai h13 (ai h14 (ai h15 (ai h16 (ai h17 (ai h18 (ai h19 (ai h20 (ai h21 (ai h22 (Eq.refl ((Value.tuple #[Value.bool false, Value.agg #[Value.string wa, Value.string wb, Value.string wc]], H) : Value × AHeap)))))))))))))))))))))))) (by kernel_rfl) rfl
theorem f37_L0_0 (h1 : x26 < x25) (h2 : aX 23 (vS x4a x4n x4c) (vI x26) = some (vP x31p x31o x31l)) (h3 : getCells H x31p x31l x31o 1 = some [Value.bool x32]) (h4 : (!x32) = false) (h5 : getCells H x1p x1l x1o 3 = some [vI x35a, vS x35ba x35bn x35bc, vS x35ca x35cn x35cc]) (h6 : cI 65 [Value.agg #[vI x35a, vS x35ba x35bn x35bc, vS x35ca x35cn x35cc], vI x26, Value.bool false] H0.length H = some (Value.tuple #[vS x37aa x37an x37ac, vS x37ba x37bn x37bc], H2)) (h7 : aX 23 (vS x37ba x37bn x37bc) (vI x26) = some (vP x42p x42o x42l)) (h8 : getCells H2 x42p x42l x42o 1 = some [Value.bool x43]) (h9 : (!x43) = false) (h10 : x7 < 0) (h11 : Fit .i64 (x26 + 1)) : lpOf cfg a37 0 prot H0 ([.pointer (some ⟨x1p, x1o, some x1l⟩), .pointer (some ⟨x3p, x3o, some x3l⟩), .slice x4a x4n x4c, .slice x5a x5n x5c, .int .i64 x7, .int .i64 x25, .int .i64 x26], H) = some (Sum.inl ([Value.pointer (some ⟨x1p, x1o, some x1l⟩), Value.pointer (some ⟨x3p, x3o, some x3l⟩), Value.slice x4a x4n x4c, Value.slice x5a x5n x5c, Value.int .i64 x26, Value.int .i64 x25, Value.int .i64 (x26 + 1)], H2)) :=
 lp_of2 [.e, .b true, .v (vP x31p x31o x31l), .v (.bool x32), .e, .b false, .v (.agg #[vI x35a, vS x35ba x35bn x35bc, vS x35ca x35cn x35cc]), .r (.tuple #[vS x37aa x37an x37ac, vS x37ba x37bn x37bc]) H2, .v (vP x42p x42o x42l), .v (.bool x43), .e, .b false, .e, .b true, .b true, .b true, .b true, .b true, .b true, .b true, .b true, .b true, .b true, .b true, .b true, .b true, .b true, .b true, .b true, .b true, .b true, .b true, .b true, .b true, .b true, .b true, .b true, .b true, .b true, .b true, .e] (ai (decide_eq_true h1) (ai h2 (ai h3 (ai h4 (ai h5 (ai h6 (ai h7 (ai h8 (ai h9 (ai (decide_eq_true h10) (ai (decide_eq_true h10) (ai (decide_eq_true h10) (ai (decide_eq_true h10) (ai (decide_eq_true h10) (ai (decide_eq_true h10) (ai (decide_eq_true h10) (ai (decide_eq_true h10) (ai (decide_eq_true h10) (ai (decide_eq_true h10) (ai (decide_eq_true h10) (ai (decide_eq_true h10) (ai (Eq.refl true) (ai (Eq.refl true) (ai (Eq.refl true) (ai (Eq.refl true) (ai (Eq.refl true) (ai (Eq.refl true) (ai (Eq.refl true) (ai (Eq.refl true) (ai (Eq.refl true) (ai (Eq.refl true) (ai (Eq.refl true) (ai (Eq.refl true) (ai (Eq.refl true) (ai (Eq.refl true) (ai (Eq.refl true) (ai h11 (Eq.refl (Sum.inl ([vP x1p x1o x1l, vP x3p x3o x3l, vS x4a x4n x4c, vS x5a x5n x5c, vI x26, vI x25, vI (x26 + 1)], H2) : LS ⊕ LO))))))))))))))))))))))))))))))))))))))) (by kernel_rfl)
theorem f37_L0_1 (h1 : x26 < x25) (h2 : aX 23 (vS x4a x4n x4c) (vI x26) = some (vP x31p x31o x31l)) (h3 : getCells H x31p x31l x31o 1 = some [Value.bool x32]) (h4 : (!x32) = false) (h5 : getCells H x1p x1l x1o 3 = some [vI x35a, vS x35ba x35bn x35bc, vS x35ca x35cn x35cc]) (h6 : cI 65 [Value.agg #[vI x35a, vS x35ba x35bn x35bc, vS x35ca x35cn x35cc], vI x26, Value.bool false] H0.length H = some (Value.tuple #[vS x37aa x37an x37ac, vS x37ba x37bn x37bc], H2)) (h7 : aX 23 (vS x37ba x37bn x37bc) (vI x26) = some (vP x42p x42o x42l)) (h8 : getCells H2 x42p x42l x42o 1 = some [Value.bool x43]) (h9 : (!x43) = false) (h10 : ¬(x7 < 0)) (h11 : aX 43 (vS x5a x5n x5c) (vI x26) = some (vP x50p x50o x50l)) (h12 : getCells H2 x50p x50l x50o 1 = some [Value.string x51]) (h13 : aX 43 (vS x5a x5n x5c) (vI x7) = some (vP x55p x55o x55l)) (h14 : getCells H2 x55p x55l x55o 1 = some [Value.string x56]) (h15 : (↑x51.size : Int) < (↑x56.size : Int)) (h16 : Fit .i64 (x26 + 1)) : lpOf cfg a37 0 prot H0 ([.pointer (some ⟨x1p, x1o, some x1l⟩), .pointer (some ⟨x3p, x3o, some x3l⟩), .slice x4a x4n x4c, .slice x5a x5n x5c, .int .i64 x7, .int .i64 x25, .int .i64 x26], H) = some (Sum.inl ([Value.pointer (some ⟨x1p, x1o, some x1l⟩), Value.pointer (some ⟨x3p, x3o, some x3l⟩), Value.slice x4a x4n x4c, Value.slice x5a x5n x5c, Value.int .i64 x26, Value.int .i64 x25, Value.int .i64 (x26 + 1)], H2)) :=
 lp_of2 [.e, .b true, .v (vP x31p x31o x31l), .v (.bool x32), .e, .b false, .v (.agg #[vI x35a, vS x35ba x35bn x35bc, vS x35ca x35cn x35cc]), .r (.tuple #[vS x37aa x37an x37ac, vS x37ba x37bn x37bc]) H2, .v (vP x42p x42o x42l), .v (.bool x43), .e, .b false, .e, .b false, .b false, .b false, .v (vP x50p x50o x50l), .b false, .v (.string x51), .b false, .e, .b false, .b false, .b false, .v (vP x55p x55o x55l), .b false, .v (.string x56), .b false, .e, .b false, .e, .b false, .b true, .b true, .b true, .b true, .b true, .b true, .b true, .b true, .b true, .b true, .b true, .b true, .b true, .b true, .b true, .e] (ai (decide_eq_true h1) (ai h2 (ai h3 (ai h4 (ai h5 (ai h6 (ai h7 (ai h8 (ai h9 (ai (decide_eq_false h10) (ai (decide_eq_false h10) (ai (decide_eq_false h10) (ai h11 (ai (decide_eq_false h10) (ai h12 (ai (decide_eq_false h10) (ai (decide_eq_false h10) (ai (decide_eq_false h10) (ai (decide_eq_false h10) (ai h13 (ai (decide_eq_false h10) (ai h14 (ai (decide_eq_false h10) (ai (decide_eq_false h10) (ai (decide_eq_false h10) (ai (decide_eq_true h15) (ai (decide_eq_true h15) (ai (decide_eq_true h15) (ai (decide_eq_true h15) (ai (decide_eq_true h15) (ai (decide_eq_true h15) (ai (decide_eq_true h15) (ai (decide_eq_true h15) (ai (decide_eq_true h15) (ai (decide_eq_true h15) (ai (decide_eq_true h15) (ai (decide_eq_true h15) (ai (decide_eq_true h15) (ai (decide_eq_true h15) (ai (Eq.refl true) (ai h16 (Eq.refl (Sum.inl ([vP x1p x1o x1l, vP x3p x3o x3l, vS x4a x4n x4c, vS x5a x5n x5c, vI x26, vI x25, vI (x26 + 1)], H2) : LS ⊕ LO))))))))))))))))))))))))))))))))))))))))))) (by kernel_rfl)
theorem f37_L0_2 (h1 : x26 < x25) (h2 : aX 23 (vS x4a x4n x4c) (vI x26) = some (vP x31p x31o x31l)) (h3 : getCells H x31p x31l x31o 1 = some [Value.bool x32]) (h4 : (!x32) = false) (h5 : getCells H x1p x1l x1o 3 = some [vI x35a, vS x35ba x35bn x35bc, vS x35ca x35cn x35cc]) (h6 : cI 65 [Value.agg #[vI x35a, vS x35ba x35bn x35bc, vS x35ca x35cn x35cc], vI x26, Value.bool false] H0.length H = some (Value.tuple #[vS x37aa x37an x37ac, vS x37ba x37bn x37bc], H2)) (h7 : aX 23 (vS x37ba x37bn x37bc) (vI x26) = some (vP x42p x42o x42l)) (h8 : getCells H2 x42p x42l x42o 1 = some [Value.bool x43]) (h9 : (!x43) = false) (h10 : ¬(x7 < 0)) (h11 : aX 43 (vS x5a x5n x5c) (vI x26) = some (vP x50p x50o x50l)) (h12 : getCells H2 x50p x50l x50o 1 = some [Value.string x51]) (h13 : aX 43 (vS x5a x5n x5c) (vI x7) = some (vP x55p x55o x55l)) (h14 : getCells H2 x55p x55l x55o 1 = some [Value.string x56]) (h15 : ¬((↑x51.size : Int) < (↑x56.size : Int))) (h16 : aX 43 (vS x5a x5n x5c) (vI x26) = some (vP x63p x63o x63l)) (h17 : getCells H2 x63p x63l x63o 1 = some [Value.string x64]) (h18 : aX 43 (vS x5a x5n x5c) (vI x7) = some (vP x68p x68o x68l)) (h19 : getCells H2 x68p x68l x68o 1 = some [Value.string x69]) (h20 : ((↑x64.size : Int) == (↑x69.size : Int)) = true) (h21 : aX 43 (vS x5a x5n x5c) (vI x26) = some (vP x75p x75o x75l)) (h22 : getCells H2 x75p x75l x75o 1 = some [Value.string x76]) (h23 : aX 43 (vS x5a x5n x5c) (vI x7) = some (vP x79p x79o x79l)) (h24 : getCells H2 x79p x79l x79o 1 = some [Value.string x80]) (h25 : Op.bytesLess x76.toList x80.toList = true) (h26 : Fit .i64 (x26 + 1)) : lpOf cfg a37 0 prot H0 ([.pointer (some ⟨x1p, x1o, some x1l⟩), .pointer (some ⟨x3p, x3o, some x3l⟩), .slice x4a x4n x4c, .slice x5a x5n x5c, .int .i64 x7, .int .i64 x25, .int .i64 x26], H) = some (Sum.inl ([Value.pointer (some ⟨x1p, x1o, some x1l⟩), Value.pointer (some ⟨x3p, x3o, some x3l⟩), Value.slice x4a x4n x4c, Value.slice x5a x5n x5c, Value.int .i64 x26, Value.int .i64 x25, Value.int .i64 (x26 + 1)], H2)) :=
 lp_of2 [.e, .b true, .v (vP x31p x31o x31l), .v (.bool x32), .e, .b false, .v (.agg #[vI x35a, vS x35ba x35bn x35bc, vS x35ca x35cn x35cc]), .r (.tuple #[vS x37aa x37an x37ac, vS x37ba x37bn x37bc]) H2, .v (vP x42p x42o x42l), .v (.bool x43), .e, .b false, .e, .b false, .b false, .b false, .v (vP x50p x50o x50l), .b false, .v (.string x51), .b false, .e, .b false, .b false, .b false, .v (vP x55p x55o x55l), .b false, .v (.string x56), .b false, .e, .b false, .e, .b false, .b false, .b false, .b false, .v (vP x63p x63o x63l), .b false, .v (.string x64), .b false, .e, .b false, .b false, .b false, .v (vP x68p x68o x68l), .b false, .v (.string x69), .b false, .e, .b false, .e, .b false, .b true, .b true, .b true, .v (vP x75p x75o x75l), .b true, .v (.string x76), .b true, .b true, .b true, .v (vP x79p x79o x79l), .b true, .v (.string x80), .b true, .e, .b false, .b true, .b false, .b true, .e] (ai (decide_eq_true h1) (ai h2 (ai h3 (ai h4 (ai h5 (ai h6 (ai h7 (ai h8 (ai h9 (ai (decide_eq_false h10) (ai (decide_eq_false h10) (ai (decide_eq_false h10) (ai h11 (ai (decide_eq_false h10) (ai h12 (ai (decide_eq_false h10) (ai (decide_eq_false h10) (ai (decide_eq_false h10) (ai (decide_eq_false h10) (ai h13 (ai (decide_eq_false h10) (ai h14 (ai (decide_eq_false h10) (ai (decide_eq_false h10) (ai (decide_eq_false h10) (ai (decide_eq_false h15) (ai (decide_eq_false h15) (ai (decide_eq_false h15) (ai h16 (ai (decide_eq_false h15) (ai h17 (ai (decide_eq_false h15) (ai (decide_eq_false h15) (ai (decide_eq_false h15) (ai (decide_eq_false h15) (ai h18 (ai (decide_eq_false h15) (ai h19 (ai (decide_eq_false h15) (ai (decide_eq_false h15) (ai (decide_eq_false h15) (ai h20 (ai h20 (ai h20 (ai h21 (ai h20 (ai h22 (ai h20 (ai h20 (ai h20 (ai h23 (ai h20 (ai h24 (ai h20 (ai (decide_eq_false h15) (ai h20 (ai (decide_eq_false h15) (ai h25 (ai h26 (Eq.refl (Sum.inl ([vP x1p x1o x1l, vP x3p x3o x3l, vS x4a x4n x4c, vS x5a x5n x5c, vI x26, vI x25, vI (x26 + 1)], H2) : LS ⊕ LO))))))))))))))))))))))))))))))))))))))))))))))))))))))))))))) (by kernel_rfl)
theorem f37_L0_3 (h1 : x26 < x25) (h2 : aX 23 (vS x4a x4n x4c) (vI x26) = some (vP x31p x31o x31l)) (h3 : getCells H x31p x31l x31o 1 = some [Value.bool x32]) (h4 : (!x32) = false) (h5 : getCells H x1p x1l x1o 3 = some [vI x35a, vS x35ba x35bn x35bc, vS x35ca x35cn x35cc]) (h6 : cI 65 [Value.agg #[vI x35a, vS x35ba x35bn x35bc, vS x35ca x35cn x35cc], vI x26, Value.bool false] H0.length H = some (Value.tuple #[vS x37aa x37an x37ac, vS x37ba x37bn x37bc], H2)) (h7 : aX 23 (vS x37ba x37bn x37bc) (vI x26) = some (vP x42p x42o x42l)) (h8 : getCells H2 x42p x42l x42o 1 = some [Value.bool x43]) (h9 : (!x43) = false) (h10 : ¬(x7 < 0)) (h11 : aX 43 (vS x5a x5n x5c) (vI x26) = some (vP x50p x50o x50l)) (h12 : getCells H2 x50p x50l x50o 1 = some [Value.string x51]) (h13 : aX 43 (vS x5a x5n x5c) (vI x7) = some (vP x55p x55o x55l)) (h14 : getCells H2 x55p x55l x55o 1 = some [Value.string x56]) (h15 : ¬((↑x51.size : Int) < (↑x56.size : Int))) (h16 : aX 43 (vS x5a x5n x5c) (vI x26) = some (vP x63p x63o x63l)) (h17 : getCells H2 x63p x63l x63o 1 = some [Value.string x64]) (h18 : aX 43 (vS x5a x5n x5c) (vI x7) = some (vP x68p x68o x68l)) (h19 : getCells H2 x68p x68l x68o 1 = some [Value.string x69]) (h20 : ((↑x64.size : Int) == (↑x69.size : Int)) = true) (h21 : aX 43 (vS x5a x5n x5c) (vI x26) = some (vP x75p x75o x75l)) (h22 : getCells H2 x75p x75l x75o 1 = some [Value.string x76]) (h23 : aX 43 (vS x5a x5n x5c) (vI x7) = some (vP x79p x79o x79l)) (h24 : getCells H2 x79p x79l x79o 1 = some [Value.string x80]) (h25 : Op.bytesLess x76.toList x80.toList = false) (h26 : Fit .i64 (x26 + 1)) : lpOf cfg a37 0 prot H0 ([.pointer (some ⟨x1p, x1o, some x1l⟩), .pointer (some ⟨x3p, x3o, some x3l⟩), .slice x4a x4n x4c, .slice x5a x5n x5c, .int .i64 x7, .int .i64 x25, .int .i64 x26], H) = some (Sum.inl ([Value.pointer (some ⟨x1p, x1o, some x1l⟩), Value.pointer (some ⟨x3p, x3o, some x3l⟩), Value.slice x4a x4n x4c, Value.slice x5a x5n x5c, Value.int .i64 x7, Value.int .i64 x25, Value.int .i64 (x26 + 1)], H2)) :=
 lp_of2 [.e, .b true, .v (vP x31p x31o x31l), .v (.bool x32), .e, .b false, .v (.agg #[vI x35a, vS x35ba x35bn x35bc, vS x35ca x35cn x35cc]), .r (.tuple #[vS x37aa x37an x37ac, vS x37ba x37bn x37bc]) H2, .v (vP x42p x42o x42l), .v (.bool x43), .e, .b false, .e, .b false, .b false, .b false, .v (vP x50p x50o x50l), .b false, .v (.string x51), .b false, .e, .b false, .b false, .b false, .v (vP x55p x55o x55l), .b false, .v (.string x56), .b false, .e, .b false, .e, .b false, .b false, .b false, .b false, .v (vP x63p x63o x63l), .b false, .v (.string x64), .b false, .e, .b false, .b false, .b false, .v (vP x68p x68o x68l), .b false, .v (.string x69), .b false, .e, .b false, .e, .b false, .b true, .b true, .b true, .v (vP x75p x75o x75l), .b true, .v (.string x76), .b true, .b true, .b true, .v (vP x79p x79o x79l), .b true, .v (.string x80), .b true, .e, .b false, .b true, .b false, .b false, .e] (ai (decide_eq_true h1) (ai h2 (ai h3 (ai h4 (ai h5 (ai h6 (ai h7 (ai h8 (ai h9 (ai (decide_eq_false h10) (ai (decide_eq_false h10) (ai (decide_eq_false h10) (ai h11 (ai (decide_eq_false h10) (ai h12 (ai (decide_eq_false h10) (ai (decide_eq_false h10) (ai (decide_eq_false h10) (ai (decide_eq_false h10) (ai h13 (ai (decide_eq_false h10) (ai h14 (ai (decide_eq_false h10) (ai (decide_eq_false h10) (ai (decide_eq_false h10) (ai (decide_eq_false h15) (ai (decide_eq_false h15) (ai (decide_eq_false h15) (ai h16 (ai (decide_eq_false h15) (ai h17 (ai (decide_eq_false h15) (ai (decide_eq_false h15) (ai (decide_eq_false h15) (ai (decide_eq_false h15) (ai h18 (ai (decide_eq_false h15) (ai h19 (ai (decide_eq_false h15) (ai (decide_eq_false h15) (ai (decide_eq_false h15) (ai h20 (ai h20 (ai h20 (ai h21 (ai h20 (ai h22 (ai h20 (ai h20 (ai h20 (ai h23 (ai h20 (ai h24 (ai h20 (ai (decide_eq_false h15) (ai h20 (ai (decide_eq_false h15) (ai h25 (ai h26 (Eq.refl (Sum.inl ([vP x1p x1o x1l, vP x3p x3o x3l, vS x4a x4n x4c, vS x5a x5n x5c, vI x7, vI x25, vI (x26 + 1)], H2) : LS ⊕ LO))))))))))))))))))))))))))))))))))))))))))))))))))))))))))))) (by kernel_rfl)
theorem f37_L0_4 (h1 : x26 < x25) (h2 : aX 23 (vS x4a x4n x4c) (vI x26) = some (vP x31p x31o x31l)) (h3 : getCells H x31p x31l x31o 1 = some [Value.bool x32]) (h4 : (!x32) = false) (h5 : getCells H x1p x1l x1o 3 = some [vI x35a, vS x35ba x35bn x35bc, vS x35ca x35cn x35cc]) (h6 : cI 65 [Value.agg #[vI x35a, vS x35ba x35bn x35bc, vS x35ca x35cn x35cc], vI x26, Value.bool false] H0.length H = some (Value.tuple #[vS x37aa x37an x37ac, vS x37ba x37bn x37bc], H2)) (h7 : aX 23 (vS x37ba x37bn x37bc) (vI x26) = some (vP x42p x42o x42l)) (h8 : getCells H2 x42p x42l x42o 1 = some [Value.bool x43]) (h9 : (!x43) = false) (h10 : ¬(x7 < 0)) (h11 : aX 43 (vS x5a x5n x5c) (vI x26) = some (vP x50p x50o x50l)) (h12 : getCells H2 x50p x50l x50o 1 = some [Value.string x51]) (h13 : aX 43 (vS x5a x5n x5c) (vI x7) = some (vP x55p x55o x55l)) (h14 : getCells H2 x55p x55l x55o 1 = some [Value.string x56]) (h15 : ¬((↑x51.size : Int) < (↑x56.size : Int))) (h16 : aX 43 (vS x5a x5n x5c) (vI x26) = some (vP x63p x63o x63l)) (h17 : getCells H2 x63p x63l x63o 1 = some [Value.string x64]) (h18 : aX 43 (vS x5a x5n x5c) (vI x7) = some (vP x68p x68o x68l)) (h19 : getCells H2 x68p x68l x68o 1 = some [Value.string x69]) (h20 : ((↑x64.size : Int) == (↑x69.size : Int)) = false) (h21 : Fit .i64 (x26 + 1)) : lpOf cfg a37 0 prot H0 ([.pointer (some ⟨x1p, x1o, some x1l⟩), .pointer (some ⟨x3p, x3o, some x3l⟩), .slice x4a x4n x4c, .slice x5a x5n x5c, .int .i64 x7, .int .i64 x25, .int .i64 x26], H) = some (Sum.inl ([Value.pointer (some ⟨x1p, x1o, some x1l⟩), Value.pointer (some ⟨x3p, x3o, some x3l⟩), Value.slice x4a x4n x4c, Value.slice x5a x5n x5c, Value.int .i64 x7, Value.int .i64 x25, Value.int .i64 (x26 + 1)], H2)) :=
 lp_of2 [.e, .b true, .v (vP x31p x31o x31l), .v (.bool x32), .e, .b false, .v (.agg #[vI x35a, vS x35ba x35bn x35bc, vS x35ca x35cn x35cc]), .r (.tuple #[vS x37aa x37an x37ac, vS x37ba x37bn x37bc]) H2, .v (vP x42p x42o x42l), .v (.bool x43), .e, .b false, .e, .b false, .b false, .b false, .v (vP x50p x50o x50l), .b false, .v (.string x51), .b false, .e, .b false, .b false, .b false, .v (vP x55p x55o x55l), .b false, .v (.string x56), .b false, .e, .b false, .e, .b false, .b false, .b false, .b false, .v (vP x63p x63o x63l), .b false, .v (.string x64), .b false, .e, .b false, .b false, .b false, .v (vP x68p x68o x68l), .b false, .v (.string x69), .b false, .e, .b false, .e, .b false, .b false, .b false, .b false, .b false, .b false, .b false, .b false, .b false, .b false, .b false, .b false, .b false, .b false, .e] (ai (decide_eq_true h1) (ai h2 (ai h3 (ai h4 (ai h5 (ai h6 (ai h7 (ai h8 (ai h9 (ai (decide_eq_false h10) (ai (decide_eq_false h10) (ai (decide_eq_false h10) (ai h11 (ai (decide_eq_false h10) (ai h12 (ai (decide_eq_false h10) (ai (decide_eq_false h10) (ai (decide_eq_false h10) (ai (decide_eq_false h10) (ai h13 (ai (decide_eq_false h10) (ai h14 (ai (decide_eq_false h10) (ai (decide_eq_false h10) (ai (decide_eq_false h10) (ai (decide_eq_false h15) (ai (decide_eq_false h15) (ai (decide_eq_false h15) (ai h16 (ai (decide_eq_false h15) (ai h17 (ai (decide_eq_false h15) (ai (decide_eq_false h15) (ai (decide_eq_false h15) (ai (decide_eq_false h15) (ai h18 (ai (decide_eq_false h15) (ai h19 (ai (decide_eq_false h15) (ai (decide_eq_false h15) (ai (decide_eq_false h15) (ai h20 (ai h20 (ai h20 (ai h20 (ai h20 (ai h20 (ai h20 (ai h20 (ai h20 (ai (decide_eq_false h15) (ai h20 (ai (decide_eq_false h15) (ai (Eq.refl false) (ai h21 (Eq.refl (Sum.inl ([vP x1p x1o x1l, vP x3p x3o x3l, vS x4a x4n x4c, vS x5a x5n x5c, vI x7, vI x25, vI (x26 + 1)], H2) : LS ⊕ LO))))))))))))))))))))))))))))))))))))))))))))))))))))))))) (by kernel_rfl)
theorem f37_L0_5 (h1 : x26 < x25) (h2 : aX 23 (vS x4a x4n x4c) (vI x26) = some (vP x31p x31o x31l)) (h3 : getCells H x31p x31l x31o 1 = some [Value.bool x32]) (h4 : (!x32) = false) (h5 : getCells H x1p x1l x1o 3 = some [vI x35a, vS x35ba x35bn x35bc, vS x35ca x35cn x35cc]) (h6 : cI 65 [Value.agg #[vI x35a, vS x35ba x35bn x35bc, vS x35ca x35cn x35cc], vI x26, Value.bool false] H0.length H = some (Value.tuple #[vS x37aa x37an x37ac, vS x37ba x37bn x37bc], H2)) (h7 : aX 23 (vS x37ba x37bn x37bc) (vI x26) = some (vP x42p x42o x42l)) (h8 : getCells H2 x42p x42l x42o 1 = some [Value.bool x43]) (h9 : (!x43) = true) (h10 : Fit .i64 (x26 + 1)) : lpOf cfg a37 0 prot H0 ([.pointer (some ⟨x1p, x1o, some x1l⟩), .pointer (some ⟨x3p, x3o, some x3l⟩), .slice x4a x4n x4c, .slice x5a x5n x5c, .int .i64 x7, .int .i64 x25, .int .i64 x26], H) = some (Sum.inl ([Value.pointer (some ⟨x1p, x1o, some x1l⟩), Value.pointer (some ⟨x3p, x3o, some x3l⟩), Value.slice x4a x4n x4c, Value.slice x5a x5n x5c, Value.int .i64 x7, Value.int .i64 x25, Value.int .i64 (x26 + 1)], H2)) :=
 lp_of2 [.e, .b true, .v (vP x31p x31o x31l), .v (.bool x32), .e, .b false, .v (.agg #[vI x35a, vS x35ba x35bn x35bc, vS x35ca x35cn x35cc]), .r (.tuple #[vS x37aa x37an x37ac, vS x37ba x37bn x37bc]) H2, .v (vP x42p x42o x42l), .v (.bool x43), .e, .b true, .e] (ai (decide_eq_true h1) (ai h2 (ai h3 (ai h4 (ai h5 (ai h6 (ai h7 (ai h8 (ai h9 (ai h10 (Eq.refl (Sum.inl ([vP x1p x1o x1l, vP x3p x3o x3l, vS x4a x4n x4c, vS x5a x5n x5c, vI x7, vI x25, vI (x26 + 1)], H2) : LS ⊕ LO)))))))))))) (by kernel_rfl)
theorem f37_L0_6 (h1 : x26 < x25) (h2 : aX 23 (vS x4a x4n x4c) (vI x26) = some (vP x31p x31o x31l)) (h3 : getCells H x31p x31l x31o 1 = some [Value.bool x32]) (h4 : (!x32) = true) (h5 : Fit .i64 (x26 + 1)) : lpOf cfg a37 0 prot H0 ([.pointer (some ⟨x1p, x1o, some x1l⟩), .pointer (some ⟨x3p, x3o, some x3l⟩), .slice x4a x4n x4c, .slice x5a x5n x5c, .int .i64 x7, .int .i64 x25, .int .i64 x26], H) = some (Sum.inl ([Value.pointer (some ⟨x1p, x1o, some x1l⟩), Value.pointer (some ⟨x3p, x3o, some x3l⟩), Value.slice x4a x4n x4c, Value.slice x5a x5n x5c, Value.int .i64 x7, Value.int .i64 x25, Value.int .i64 (x26 + 1)], H)) :=
 lp_of2 [.e, .b true, .v (vP x31p x31o x31l), .v (.bool x32), .e, .b true, .e] (ai (decide_eq_true h1) (ai h2 (ai h3 (ai h4 (ai h5 (Eq.refl (Sum.inl ([vP x1p x1o x1l, vP x3p x3o x3l, vS x4a x4n x4c, vS x5a x5n x5c, vI x7, vI x25, vI (x26 + 1)], H) : LS ⊕ LO))))))) (by kernel_rfl)
theorem f37_L0_7 (h1 : ¬(x26 < x25)) : lpOf cfg a37 0 prot H0 ([.pointer (some ⟨x1p, x1o, some x1l⟩), .pointer (some ⟨x3p, x3o, some x3l⟩), .slice x4a x4n x4c, .slice x5a x5n x5c, .int .i64 x7, .int .i64 x25, .int .i64 x26], H) = some (Sum.inr (Ex.exit 0, [Value.pointer (some ⟨x1p, x1o, some x1l⟩), Value.pointer (some ⟨x3p, x3o, some x3l⟩), Value.slice x5a x5n x5c, Value.int .i64 x7], H)) :=
 lp_of2 [.e, .b false] (ai (decide_eq_false h1) (Eq.refl (Sum.inr (Ex.exit 0, [vP x1p x1o x1l, vP x3p x3o x3l, vS x5a x5n x5c, vI x7], H) : LS ⊕ LO))) (by kernel_rfl)
theorem f37_L1_0 (h1 : x104 < x103) (h2 : getCells H x1p x1l (x1o + 2) 1 = some [vS x108a x108n x108c]) (h3 : aX 23 (vS x108a x108n x108c) (vI x104) = some (vP x110p x110o x110l)) (h4 : getCells H x110p x110l x110o 1 = some [Value.bool x111]) (h5 : x111 = true) (h6 : aX 23 (vS x14a x14n x14c) (vI x104) = some (vP x115p x115o x115l)) (h7 : getCells H x115p x115l x115o 1 = some [Value.bool x116]) (h8 : x116 = true) (h9 : x15 < 0) (h10 : Fit .i64 (x104 + 1)) : lpOf cfg a37 1 prot H0 ([.pointer (some ⟨x1p, x1o, some x1l⟩), .pointer (some ⟨x3p, x3o, some x3l⟩), .slice x5a x5n x5c, .int .i64 x7, .slice x11a x11n x11c, .slice x13a x13n x13c, .slice x14a x14n x14c, .int .i64 x15, .int .i64 x103, .int .i64 x104], H) = some (Sum.inl ([Value.pointer (some ⟨x1p, x1o, some x1l⟩), Value.pointer (some ⟨x3p, x3o, some x3l⟩), Value.slice x5a x5n x5c, Value.int .i64 x7, Value.slice x11a x11n x11c, Value.slice x13a x13n x13c, Value.slice x14a x14n x14c, Value.int .i64 x104, Value.int .i64 x103, Value.int .i64 (x104 + 1)], H)) :=
 lp_of2 [.e, .b true, .v (vS x108a x108n x108c), .v (vP x110p x110o x110l), .v (.bool x111), .b true, .b true, .b true, .v (vP x115p x115o x115l), .b true, .v (.bool x116), .b true, .b true, .b true, .e, .b true, .b true, .b true, .b true, .b true, .b true, .b true, .b true, .b true, .b true, .b true, .b true, .b true, .b true, .b true, .b true, .b true, .b true, .b true, .b true, .b true, .b true, .b true, .b true, .b true, .b true, .b true, .b true, .b true, .b true, .b true, .b true, .e] (ai (decide_eq_true h1) (ai h2 (ai h3 (ai h4 (ai h5 (ai h5 (ai h5 (ai h6 (ai h5 (ai h7 (ai h5 (ai h8 (ai h8 (ai h8 (ai (decide_eq_true h9) (ai (decide_eq_true h9) (ai (decide_eq_true h9) (ai (decide_eq_true h9) (ai (decide_eq_true h9) (ai (decide_eq_true h9) (ai (decide_eq_true h9) (ai (decide_eq_true h9) (ai (decide_eq_true h9) (ai (decide_eq_true h9) (ai (decide_eq_true h9) (ai h8 (ai (decide_eq_true h9) (ai h8 (ai (Eq.refl true) (ai (Eq.refl true) (ai (Eq.refl true) (ai (Eq.refl true) (ai (Eq.refl true) (ai (Eq.refl true) (ai (Eq.refl true) (ai (Eq.refl true) (ai (Eq.refl true) (ai (Eq.refl true) (ai (Eq.refl true) (ai (Eq.refl true) (ai (Eq.refl true) (ai h8 (ai (Eq.refl true) (ai h8 (ai (Eq.refl true) (ai h10 (Eq.refl (Sum.inl ([vP x1p x1o x1l, vP x3p x3o x3l, vS x5a x5n x5c, vI x7, vS x11a x11n x11c, vS x13a x13n x13c, vS x14a x14n x14c, vI x104, vI x103, vI (x104 + 1)], H) : LS ⊕ LO)))))))))))))))))))))))))))))))))))))))))))))))) (by kernel_rfl)
theorem f37_L1_1 (h1 : x104 < x103) (h2 : getCells H x1p x1l (x1o + 2) 1 = some [vS x108a x108n x108c]) (h3 : aX 23 (vS x108a x108n x108c) (vI x104) = some (vP x110p x110o x110l)) (h4 : getCells H x110p x110l x110o 1 = some [Value.bool x111]) (h5 : x111 = true) (h6 : aX 23 (vS x14a x14n x14c) (vI x104) = some (vP x115p x115o x115l)) (h7 : getCells H x115p x115l x115o 1 = some [Value.bool x116]) (h8 : x116 = true) (h9 : ¬(x15 < 0)) (h10 : aX 43 (vS x13a x13n x13c) (vI x104) = some (vP x124p x124o x124l)) (h11 : getCells H x124p x124l x124o 1 = some [Value.string x125]) (h12 : aX 43 (vS x13a x13n x13c) (vI x15) = some (vP x129p x129o x129l)) (h13 : getCells H x129p x129l x129o 1 = some [Value.string x130]) (h14 : (↑x125.size : Int) < (↑x130.size : Int)) (h15 : Fit .i64 (x104 + 1)) : lpOf cfg a37 1 prot H0 ([.pointer (some ⟨x1p, x1o, some x1l⟩), .pointer (some ⟨x3p, x3o, some x3l⟩), .slice x5a x5n x5c, .int .i64 x7, .slice x11a x11n x11c, .slice x13a x13n x13c, .slice x14a x14n x14c, .int .i64 x15, .int .i64 x103, .int .i64 x104], H) = some (Sum.inl ([Value.pointer (some ⟨x1p, x1o, some x1l⟩), Value.pointer (some ⟨x3p, x3o, some x3l⟩), Value.slice x5a x5n x5c, Value.int .i64 x7, Value.slice x11a x11n x11c, Value.slice x13a x13n x13c, Value.slice x14a x14n x14c, Value.int .i64 x104, Value.int .i64 x103, Value.int .i64 (x104 + 1)], H)) :=
 lp_of2 [.e, .b true, .v (vS x108a x108n x108c), .v (vP x110p x110o x110l), .v (.bool x111), .b true, .b true, .b true, .v (vP x115p x115o x115l), .b true, .v (.bool x116), .b true, .b true, .b true, .e, .b true, .b false, .b false, .b false, .v (vP x124p x124o x124l), .b false, .v (.string x125), .b false, .e, .b false, .b false, .b false, .v (vP x129p x129o x129l), .b false, .v (.string x130), .b false, .e, .b false, .e, .b true, .b false, .b true, .b true, .b true, .b true, .b true, .b true, .b true, .b true, .b true, .b true, .b true, .b true, .b true, .b true, .b true, .b true, .b true, .b true, .e] (ai (decide_eq_true h1) (ai h2 (ai h3 (ai h4 (ai h5 (ai h5 (ai h5 (ai h6 (ai h5 (ai h7 (ai h5 (ai h8 (ai h8 (ai h8 (ai (decide_eq_false h9) (ai (decide_eq_false h9) (ai (decide_eq_false h9) (ai h10 (ai (decide_eq_false h9) (ai h11 (ai (decide_eq_false h9) (ai (decide_eq_false h9) (ai (decide_eq_false h9) (ai (decide_eq_false h9) (ai h12 (ai (decide_eq_false h9) (ai h13 (ai (decide_eq_false h9) (ai (decide_eq_false h9) (ai h8 (ai (decide_eq_false h9) (ai h8 (ai (decide_eq_true h14) (ai (decide_eq_true h14) (ai (decide_eq_true h14) (ai (decide_eq_true h14) (ai (decide_eq_true h14) (ai (decide_eq_true h14) (ai (decide_eq_true h14) (ai (decide_eq_true h14) (ai (decide_eq_true h14) (ai (decide_eq_true h14) (ai (decide_eq_true h14) (ai (decide_eq_true h14) (ai (decide_eq_true h14) (ai h8 (ai (decide_eq_true h14) (ai h8 (ai (Eq.refl true) (ai h15 (Eq.refl (Sum.inl ([vP x1p x1o x1l, vP x3p x3o x3l, vS x5a x5n x5c, vI x7, vS x11a x11n x11c, vS x13a x13n x13c, vS x14a x14n x14c, vI x104, vI x103, vI (x104 + 1)], H) : LS ⊕ LO)))))))))))))))))))))))))))))))))))))))))))))))))))) (by kernel_rfl)
theorem f37_L1_2 (h1 : x104 < x103) (h2 : getCells H x1p x1l (x1o + 2) 1 = some [vS x108a x108n x108c]) (h3 : aX 23 (vS x108a x108n x108c) (vI x104) = some (vP x110p x110o x110l)) (h4 : getCells H x110p x110l x110o 1 = some [Value.bool x111]) (h5 : x111 = true) (h6 : aX 23 (vS x14a x14n x14c) (vI x104) = some (vP x115p x115o x115l)) (h7 : getCells H x115p x115l x115o 1 = some [Value.bool x116]) (h8 : x116 = true) (h9 : ¬(x15 < 0)) (h10 : aX 43 (vS x13a x13n x13c) (vI x104) = some (vP x124p x124o x124l)) (h11 : getCells H x124p x124l x124o 1 = some [Value.string x125]) (h12 : aX 43 (vS x13a x13n x13c) (vI x15) = some (vP x129p x129o x129l)) (h13 : getCells H x129p x129l x129o 1 = some [Value.string x130]) (h14 : ¬((↑x125.size : Int) < (↑x130.size : Int))) (h15 : aX 43 (vS x13a x13n x13c) (vI x104) = some (vP x137p x137o x137l)) (h16 : getCells H x137p x137l x137o 1 = some [Value.string x138]) (h17 : aX 43 (vS x13a x13n x13c) (vI x15) = some (vP x142p x142o x142l)) (h18 : getCells H x142p x142l x142o 1 = some [Value.string x143]) (h19 : ((↑x138.size : Int) == (↑x143.size : Int)) = true) (h20 : aX 43 (vS x13a x13n x13c) (vI x104) = some (vP x149p x149o x149l)) (h21 : getCells H x149p x149l x149o 1 = some [Value.string x150]) (h22 : aX 43 (vS x13a x13n x13c) (vI x15) = some (vP x153p x153o x153l)) (h23 : getCells H x153p x153l x153o 1 = some [Value.string x154]) (h24 : Op.bytesLess x150.toList x154.toList = true) (h25 : Fit .i64 (x104 + 1)) : lpOf cfg a37 1 prot H0 ([.pointer (some ⟨x1p, x1o, some x1l⟩), .pointer (some ⟨x3p, x3o, some x3l⟩), .slice x5a x5n x5c, .int .i64 x7, .slice x11a x11n x11c, .slice x13a x13n x13c, .slice x14a x14n x14c, .int .i64 x15, .int .i64 x103, .int .i64 x104], H) = some (Sum.inl ([Value.pointer (some ⟨x1p, x1o, some x1l⟩), Value.pointer (some ⟨x3p, x3o, some x3l⟩), Value.slice x5a x5n x5c, Value.int .i64 x7, Value.slice x11a x11n x11c, Value.slice x13a x13n x13c, Value.slice x14a x14n x14c, Value.int .i64 x104, Value.int .i64 x103, Value.int .i64 (x104 + 1)], H)) :=
 lp_of2 [.e, .b true, .v (vS x108a x108n x108c), .v (vP x110p x110o x110l), .v (.bool x111), .b true, .b true, .b true, .v (vP x115p x115o x115l), .b true, .v (.bool x116), .b true, .b true, .b true, .e, .b true, .b false, .b false, .b false, .v (vP x124p x124o x124l), .b false, .v (.string x125), .b false, .e, .b false, .b false, .b false, .v (vP x129p x129o x129l), .b false, .v (.string x130), .b false, .e, .b false, .e, .b true, .b false, .b true, .b false, .b false, .b false, .v (vP x137p x137o x137l), .b false, .v (.string x138), .b false, .e, .b false, .b false, .b false, .v (vP x142p x142o x142l), .b false, .v (.string x143), .b false, .e, .b false, .e, .b false, .b true, .b true, .b true, .v (vP x149p x149o x149l), .b true, .v (.string x150), .b true, .b true, .b true, .v (vP x153p x153o x153l), .b true, .v (.string x154), .b true, .e, .b false, .b true, .b true, .b false, .b true, .b true, .e] (ai (decide_eq_true h1) (ai h2 (ai h3 (ai h4 (ai h5 (ai h5 (ai h5 (ai h6 (ai h5 (ai h7 (ai h5 (ai h8 (ai h8 (ai h8 (ai (decide_eq_false h9) (ai (decide_eq_false h9) (ai (decide_eq_false h9) (ai h10 (ai (decide_eq_false h9) (ai h11 (ai (decide_eq_false h9) (ai (decide_eq_false h9) (ai (decide_eq_false h9) (ai (decide_eq_false h9) (ai h12 (ai (decide_eq_false h9) (ai h13 (ai (decide_eq_false h9) (ai (decide_eq_false h9) (ai h8 (ai (decide_eq_false h9) (ai h8 (ai (decide_eq_false h14) (ai (decide_eq_false h14) (ai (decide_eq_false h14) (ai h15 (ai (decide_eq_false h14) (ai h16 (ai (decide_eq_false h14) (ai (decide_eq_false h14) (ai (decide_eq_false h14) (ai (decide_eq_false h14) (ai h17 (ai (decide_eq_false h14) (ai h18 (ai (decide_eq_false h14) (ai (decide_eq_false h14) (ai (decide_eq_false h14) (ai h19 (ai h19 (ai h19 (ai h20 (ai h19 (ai h21 (ai h19 (ai h19 (ai h19 (ai h22 (ai h19 (ai h23 (ai h19 (ai (decide_eq_false h14) (ai h19 (ai h8 (ai (decide_eq_false h14) (ai h8 (ai h24 (ai h25 (Eq.refl (Sum.inl ([vP x1p x1o x1l, vP x3p x3o x3l, vS x5a x5n x5c, vI x7, vS x11a x11n x11c, vS x13a x13n x13c, vS x14a x14n x14c, vI x104, vI x103, vI (x104 + 1)], H) : LS ⊕ LO)))))))))))))))))))))))))))))))))))))))))))))))))))))))))))))))))))))) (by kernel_rfl)
theorem f37_L1_3 (h1 : x104 < x103) (h2 : getCells H x1p x1l (x1o + 2) 1 = some [vS x108a x108n x108c]) (h3 : aX 23 (vS x108a x108n x108c) (vI x104) = some (vP x110p x110o x110l)) (h4 : getCells H x110p x110l x110o 1 = some [Value.bool x111]) (h5 : x111 = true) (h6 : aX 23 (vS x14a x14n x14c) (vI x104) = some (vP x115p x115o x115l)) (h7 : getCells H x115p x115l x115o 1 = some [Value.bool x116]) (h8 : x116 = true) (h9 : ¬(x15 < 0)) (h10 : aX 43 (vS x13a x13n x13c) (vI x104) = some (vP x124p x124o x124l)) (h11 : getCells H x124p x124l x124o 1 = some [Value.string x125]) (h12 : aX 43 (vS x13a x13n x13c) (vI x15) = some (vP x129p x129o x129l)) (h13 : getCells H x129p x129l x129o 1 = some [Value.string x130]) (h14 : ¬((↑x125.size : Int) < (↑x130.size : Int))) (h15 : aX 43 (vS x13a x13n x13c) (vI x104) = some (vP x137p x137o x137l)) (h16 : getCells H x137p x137l x137o 1 = some [Value.string x138]) (h17 : aX 43 (vS x13a x13n x13c) (vI x15) = some (vP x142p x142o x142l)) (h18 : getCells H x142p x142l x142o 1 = some [Value.string x143]) (h19 : ((↑x138.size : Int) == (↑x143.size : Int)) = true) (h20 : aX 43 (vS x13a x13n x13c) (vI x104) = some (vP x149p x149o x149l)) (h21 : getCells H x149p x149l x149o 1 = some [Value.string x150]) (h22 : aX 43 (vS x13a x13n x13c) (vI x15) = some (vP x153p x153o x153l)) (h23 : getCells H x153p x153l x153o 1 = some [Value.string x154]) (h24 : Op.bytesLess x150.toList x154.toList = false) (h25 : Fit .i64 (x104 + 1)) : lpOf cfg a37 1 prot H0 ([.pointer (some ⟨x1p, x1o, some x1l⟩), .pointer (some ⟨x3p, x3o, some x3l⟩), .slice x5a x5n x5c, .int .i64 x7, .slice x11a x11n x11c, .slice x13a x13n x13c, .slice x14a x14n x14c, .int .i64 x15, .int .i64 x103, .int .i64 x104], H) = some (Sum.inl ([Value.pointer (some ⟨x1p, x1o, some x1l⟩), Value.pointer (some ⟨x3p, x3o, some x3l⟩), Value.slice x5a x5n x5c, Value.int .i64 x7, Value.slice x11a x11n x11c, Value.slice x13a x13n x13c, Value.slice x14a x14n x14c, Value.int .i64 x15, Value.int .i64 x103, Value.int .i64 (x104 + 1)], H)) :=
 lp_of2 [.e, .b true, .v (vS x108a x108n x108c), .v (vP x110p x110o x110l), .v (.bool x111), .b true, .b true, .b true, .v (vP x115p x115o x115l), .b true, .v (.bool x116), .b true, .b true, .b true, .e, .b true, .b false, .b false, .b false, .v (vP x124p x124o x124l), .b false, .v (.string x125), .b false, .e, .b false, .b false, .b false, .v (vP x129p x129o x129l), .b false, .v (.string x130), .b false, .e, .b false, .e, .b true, .b false, .b true, .b false, .b false, .b false, .v (vP x137p x137o x137l), .b false, .v (.string x138), .b false, .e, .b false, .b false, .b false, .v (vP x142p x142o x142l), .b false, .v (.string x143), .b false, .e, .b false, .e, .b false, .b true, .b true, .b true, .v (vP x149p x149o x149l), .b true, .v (.string x150), .b true, .b true, .b true, .v (vP x153p x153o x153l), .b true, .v (.string x154), .b true, .e, .b false, .b true, .b true, .b false, .b true, .b false, .e] (ai (decide_eq_true h1) (ai h2 (ai h3 (ai h4 (ai h5 (ai h5 (ai h5 (ai h6 (ai h5 (ai h7 (ai h5 (ai h8 (ai h8 (ai h8 (ai (decide_eq_false h9) (ai (decide_eq_false h9) (ai (decide_eq_false h9) (ai h10 (ai (decide_eq_false h9) (ai h11 (ai (decide_eq_false h9) (ai (decide_eq_false h9) (ai (decide_eq_false h9) (ai (decide_eq_false h9) (ai h12 (ai (decide_eq_false h9) (ai h13 (ai (decide_eq_false h9) (ai (decide_eq_false h9) (ai h8 (ai (decide_eq_false h9) (ai h8 (ai (decide_eq_false h14) (ai (decide_eq_false h14) (ai (decide_eq_false h14) (ai h15 (ai (decide_eq_false h14) (ai h16 (ai (decide_eq_false h14) (ai (decide_eq_false h14) (ai (decide_eq_false h14) (ai (decide_eq_false h14) (ai h17 (ai (decide_eq_false h14) (ai h18 (ai (decide_eq_false h14) (ai (decide_eq_false h14) (ai (decide_eq_false h14) (ai h19 (ai h19 (ai h19 (ai h20 (ai h19 (ai h21 (ai h19 (ai h19 (ai h19 (ai h22 (ai h19 (ai h23 (ai h19 (ai (decide_eq_false h14) (ai h19 (ai h8 (ai (decide_eq_false h14) (ai h8 (ai h24 (ai h25 (Eq.refl (Sum.inl ([vP x1p x1o x1l, vP x3p x3o x3l, vS x5a x5n x5c, vI x7, vS x11a x11n x11c, vS x13a x13n x13c, vS x14a x14n x14c, vI x15, vI x103, vI (x104 + 1)], H) : LS ⊕ LO)))))))))))))))))))))))))))))))))))))))))))))))))))))))))))))))))))))) (by kernel_rfl)
theorem f37_L1_4 (h1 : x104 < x103) (h2 : getCells H x1p x1l (x1o + 2) 1 = some [vS x108a x108n x108c]) (h3 : aX 23 (vS x108a x108n x108c) (vI x104) = some (vP x110p x110o x110l)) (h4 : getCells H x110p x110l x110o 1 = some [Value.bool x111]) (h5 : x111 = true) (h6 : aX 23 (vS x14a x14n x14c) (vI x104) = some (vP x115p x115o x115l)) (h7 : getCells H x115p x115l x115o 1 = some [Value.bool x116]) (h8 : x116 = true) (h9 : ¬(x15 < 0)) (h10 : aX 43 (vS x13a x13n x13c) (vI x104) = some (vP x124p x124o x124l)) (h11 : getCells H x124p x124l x124o 1 = some [Value.string x125]) (h12 : aX 43 (vS x13a x13n x13c) (vI x15) = some (vP x129p x129o x129l)) (h13 : getCells H x129p x129l x129o 1 = some [Value.string x130]) (h14 : ¬((↑x125.size : Int) < (↑x130.size : Int))) (h15 : aX 43 (vS x13a x13n x13c) (vI x104) = some (vP x137p x137o x137l)) (h16 : getCells H x137p x137l x137o 1 = some [Value.string x138]) (h17 : aX 43 (vS x13a x13n x13c) (vI x15) = some (vP x142p x142o x142l)) (h18 : getCells H x142p x142l x142o 1 = some [Value.string x143]) (h19 : ((↑x138.size : Int) == (↑x143.size : Int)) = false) (h20 : Fit .i64 (x104 + 1)) : lpOf cfg a37 1 prot H0 ([.pointer (some ⟨x1p, x1o, some x1l⟩), .pointer (some ⟨x3p, x3o, some x3l⟩), .slice x5a x5n x5c, .int .i64 x7, .slice x11a x11n x11c, .slice x13a x13n x13c, .slice x14a x14n x14c, .int .i64 x15, .int .i64 x103, .int .i64 x104], H) = some (Sum.inl ([Value.pointer (some ⟨x1p, x1o, some x1l⟩), Value.pointer (some ⟨x3p, x3o, some x3l⟩), Value.slice x5a x5n x5c, Value.int .i64 x7, Value.slice x11a x11n x11c, Value.slice x13a x13n x13c, Value.slice x14a x14n x14c, Value.int .i64 x15, Value.int .i64 x103, Value.int .i64 (x104 + 1)], H)) :=
 lp_of2 [.e, .b true, .v (vS x108a x108n x108c), .v (vP x110p x110o x110l), .v (.bool x111), .b true, .b true, .b true, .v (vP x115p x115o x115l), .b true, .v (.bool x116), .b true, .b true, .b true, .e, .b true, .b false, .b false, .b false, .v (vP x124p x124o x124l), .b false, .v (.string x125), .b false, .e, .b false, .b false, .b false, .v (vP x129p x129o x129l), .b false, .v (.string x130), .b false, .e, .b false, .e, .b true, .b false, .b true, .b false, .b false, .b false, .v (vP x137p x137o x137l), .b false, .v (.string x138), .b false, .e, .b false, .b false, .b false, .v (vP x142p x142o x142l), .b false, .v (.string x143), .b false, .e, .b false, .e, .b false, .b false, .b false, .b false, .b false, .b false, .b false, .b false, .b false, .b false, .b false, .b false, .b true, .b false, .b true, .b false, .e] (ai (decide_eq_true h1) (ai h2 (ai h3 (ai h4 (ai h5 (ai h5 (ai h5 (ai h6 (ai h5 (ai h7 (ai h5 (ai h8 (ai h8 (ai h8 (ai (decide_eq_false h9) (ai (decide_eq_false h9) (ai (decide_eq_false h9) (ai h10 (ai (decide_eq_false h9) (ai h11 (ai (decide_eq_false h9) (ai (decide_eq_false h9) (ai (decide_eq_false h9) (ai (decide_eq_false h9) (ai h12 (ai (decide_eq_false h9) (ai h13 (ai (decide_eq_false h9) (ai (decide_eq_false h9) (ai h8 (ai (decide_eq_false h9) (ai h8 (ai (decide_eq_false h14) (ai (decide_eq_false h14) (ai (decide_eq_false h14) (ai h15 (ai (decide_eq_false h14) (ai h16 (ai (decide_eq_false h14) (ai (decide_eq_false h14) (ai (decide_eq_false h14) (ai (decide_eq_false h14) (ai h17 (ai (decide_eq_false h14) (ai h18 (ai (decide_eq_false h14) (ai (decide_eq_false h14) (ai (decide_eq_false h14) (ai h19 (ai h19 (ai h19 (ai h19 (ai h19 (ai h19 (ai h19 (ai h19 (ai h19 (ai (decide_eq_false h14) (ai h19 (ai h8 (ai (decide_eq_false h14) (ai h8 (ai (Eq.refl false) (ai h20 (Eq.refl (Sum.inl ([vP x1p x1o x1l, vP x3p x3o x3l, vS x5a x5n x5c, vI x7, vS x11a x11n x11c, vS x13a x13n x13c, vS x14a x14n x14c, vI x15, vI x103, vI (x104 + 1)], H) : LS ⊕ LO)))))))))))))))))))))))))))))))))))))))))))))))))))))))))))))))))) (by kernel_rfl)
theorem f37_L1_5 (h1 : x104 < x103) (h2 : getCells H x1p x1l (x1o + 2) 1 = some [vS x108a x108n x108c]) (h3 : aX 23 (vS x108a x108n x108c) (vI x104) = some (vP x110p x110o x110l)) (h4 : getCells H x110p x110l x110o 1 = some [Value.bool x111]) (h5 : x111 = true) (h6 : aX 23 (vS x14a x14n x14c) (vI x104) = some (vP x115p x115o x115l)) (h7 : getCells H x115p x115l x115o 1 = some [Value.bool x116]) (h8 : x116 = false) (h9 : Fit .i64 (x104 + 1)) : lpOf cfg a37 1 prot H0 ([.pointer (some ⟨x1p, x1o, some x1l⟩), .pointer (some ⟨x3p, x3o, some x3l⟩), .slice x5a x5n x5c, .int .i64 x7, .slice x11a x11n x11c, .slice x13a x13n x13c, .slice x14a x14n x14c, .int .i64 x15, .int .i64 x103, .int .i64 x104], H) = some (Sum.inl ([Value.pointer (some ⟨x1p, x1o, some x1l⟩), Value.pointer (some ⟨x3p, x3o, some x3l⟩), Value.slice x5a x5n x5c, Value.int .i64 x7, Value.slice x11a x11n x11c, Value.slice x13a x13n x13c, Value.slice x14a x14n x14c, Value.int .i64 x15, Value.int .i64 x103, Value.int .i64 (x104 + 1)], H)) :=
 lp_of2 [.e, .b true, .v (vS x108a x108n x108c), .v (vP x110p x110o x110l), .v (.bool x111), .b true, .b true, .b true, .v (vP x115p x115o x115l), .b true, .v (.bool x116), .b true, .b false, .b false, .b false, .b false, .b false, .b false, .b false, .b false, .e] (ai (decide_eq_true h1) (ai h2 (ai h3 (ai h4 (ai h5 (ai h5 (ai h5 (ai h6 (ai h5 (ai h7 (ai h5 (ai h8 (ai h8 (ai h8 (ai h8 (ai h8 (ai h8 (ai h8 (ai (Eq.refl false) (ai h9 (Eq.refl (Sum.inl ([vP x1p x1o x1l, vP x3p x3o x3l, vS x5a x5n x5c, vI x7, vS x11a x11n x11c, vS x13a x13n x13c, vS x14a x14n x14c, vI x15, vI x103, vI (x104 + 1)], H) : LS ⊕ LO)))))))))))))))))))))) (by kernel_rfl)
theorem f37_L1_6 (h1 : x104 < x103) (h2 : getCells H x1p x1l (x1o + 2) 1 = some [vS x108a x108n x108c]) (h3 : aX 23 (vS x108a x108n x108c) (vI x104) = some (vP x110p x110o x110l)) (h4 : getCells H x110p x110l x110o 1 = some [Value.bool x111]) (h5 : x111 = false) (h6 : Fit .i64 (x104 + 1)) : lpOf cfg a37 1 prot H0 ([.pointer (some ⟨x1p, x1o, some x1l⟩), .pointer (some ⟨x3p, x3o, some x3l⟩), .slice x5a x5n x5c, .int .i64 x7, .slice x11a x11n x11c, .slice x13a x13n x13c, .slice x14a x14n x14c, .int .i64 x15, .int .i64 x103, .int .i64 x104], H) = some (Sum.inl ([Value.pointer (some ⟨x1p, x1o, some x1l⟩), Value.pointer (some ⟨x3p, x3o, some x3l⟩), Value.slice x5a x5n x5c, Value.int .i64 x7, Value.slice x11a x11n x11c, Value.slice x13a x13n x13c, Value.slice x14a x14n x14c, Value.int .i64 x15, Value.int .i64 x103, Value.int .i64 (x104 + 1)], H)) :=
 lp_of2 [.e, .b true, .v (vS x108a x108n x108c), .v (vP x110p x110o x110l), .v (.bool x111), .b false, .b false, .b false, .b false, .b false, .b false, .b false, .b false, .b false, .b false, .b false, .b false, .b false, .e] (ai (decide_eq_true h1) (ai h2 (ai h3 (ai h4 (ai h5 (ai h5 (ai h5 (ai h5 (ai h5 (ai (Eq.refl false) (ai (Eq.refl false) (ai (Eq.refl false) (ai (Eq.refl false) (ai (Eq.refl false) (ai (Eq.refl false) (ai (Eq.refl false) (ai (Eq.refl false) (ai h6 (Eq.refl (Sum.inl ([vP x1p x1o x1l, vP x3p x3o x3l, vS x5a x5n x5c, vI x7, vS x11a x11n x11c, vS x13a x13n x13c, vS x14a x14n x14c, vI x15, vI x103, vI (x104 + 1)], H) : LS ⊕ LO)))))))))))))))))))) (by kernel_rfl)
theorem f37_L1_7 (h1 : ¬(x104 < x103)) : lpOf cfg a37 1 prot H0 ([.pointer (some ⟨x1p, x1o, some x1l⟩), .pointer (some ⟨x3p, x3o, some x3l⟩), .slice x5a x5n x5c, .int .i64 x7, .slice x11a x11n x11c, .slice x13a x13n x13c, .slice x14a x14n x14c, .int .i64 x15, .int .i64 x103, .int .i64 x104], H) = some (Sum.inr (Ex.exit 2, [Value.pointer (some ⟨x3p, x3o, some x3l⟩), Value.slice x5a x5n x5c, Value.int .i64 x7, Value.slice x11a x11n x11c, Value.slice x13a x13n x13c, Value.int .i64 x15], H)) :=
 lp_of2 [.e, .b false] (ai (decide_eq_false h1) (Eq.refl (Sum.inr (Ex.exit 2, [vP x3p x3o x3l, vS x5a x5n x5c, vI x7, vS x11a x11n x11c, vS x13a x13n x13c, vI x15], H) : LS ⊕ LO))) (by kernel_rfl)
end
end Go.Proofs.Ythjkodbinkiifaa.Am23
namespace Go.Proofs.Ythjkodbinkiifaa.Am23
open Go Go.Proofs.Ythjkodbinkiifaa.Am

/-- Shorter, or as long and ahead. -/
def slt (a b : ByteArray) : Bool := decide (a.size < b.size) || (decide (a.size = b.size) && Op.bytesLess a.toList b.toList)
def ahd (wd : Nat → ByteArray) (s : Nat) : Option Nat → Bool
 | none => true
 | some t => slt (wd s) (wd t)
def upd (ok : Nat → Bool) (wd : Nat → ByteArray) (s : Nat) (b : Option Nat) : Option Nat := if ok s && ahd wd s b then some s else b
/-- The state with the least word, of those that will do. -/
def pick (ok : Nat → Bool) (wd : Nat → ByteArray) : Nat → Nat → Option Nat → Option Nat
 | 0, _, b => b
 | d + 1, s, b => pick ok wd d (s + 1) (upd ok wd s b)
def bi : Option Nat → Int
 | none => -1
 | some s => s
theorem upd_ok {ok : Nat → Bool} {wd : Nat → ByteArray} {s : Nat} {b : Option Nat} (h : ok s = true) {v : Bool} (h2 : ahd wd s b = v) : upd ok wd s b = if v = true then some s else b := by
 unfold upd; rw [h, h2, Bool.true_and]
theorem upd_no {ok : Nat → Bool} {wd : Nat → ByteArray} {s : Nat} {b : Option Nat} (h : ok s = false) : upd ok wd s b = b := by
 unfold upd; rw [h, Bool.false_and]; rfl
theorem upd_some {ok : Nat → Bool} {wd : Nat → ByteArray} {s : Nat} {b : Option Nat} {t : Nat} (h : upd ok wd s b = some t) : (t = s ∧ ok s = true) ∨ b = some t := by
 unfold upd at h
 split at h
 ·rename_i h2
  cases h
  exact .inl ⟨rfl, (Bool.and_eq_true _ _ ▸ h2).1⟩
 ·exact .inr h
theorem pick_some {ok : Nat → Bool} {wd : Nat → ByteArray} : ∀ (d s : Nat) (b : Option Nat) {t : Nat}, pick ok wd d s b = some t → (s ≤ t ∧ t < s + d ∧ ok t = true) ∨ b = some t
 | 0, _, _, _, h => .inr h
 | d + 1, s, b, t, h => by
  rcases pick_some d (s + 1) _ h with ⟨h1, h2, h3⟩ | h1
  ·exact .inl ⟨by omega, by omega, h3⟩
  ·rcases upd_some h1 with ⟨rfl, h2⟩ | h2
   ·exact .inl ⟨by omega, by omega, h2⟩
   ·exact .inr h2
theorem pick_none {ok : Nat → Bool} {wd : Nat → ByteArray} : ∀ (d s : Nat) (b : Option Nat), pick ok wd d s b = none → b = none ∧ ∀ t, s ≤ t → t < s + d → ok t = false
 | 0, _, _, h => ⟨h, fun t h1 h2 => by omega⟩
 | d + 1, s, b, h => by
  obtain ⟨h1, h2⟩ := pick_none d (s + 1) _ h
  unfold upd at h1
  split at h1
  ·cases h1
  ·rename_i h3
   subst h1
   have h3 : ¬ (ok s && true) = true := h3
   rw [Bool.and_true] at h3
   refine ⟨rfl, fun t h4 h5 => ?_⟩
   by_cases he : t = s
   ·subst he; simpa using h3
   ·exact h2 t (by omega) (by omega)

def okB (k : Nat) (xs : List Int) (n : Nat) (U : List Bool) (s : Nat) : Bool := U.getD s false && (bfs k xs n s false).met.getD s false
def wd0 (k : Nat) (xs : List Int) (n a : Nat) (s : Nat) : ByteArray := lw ((bfs k xs n a true).ws.getD s [])
def okE (k : Nat) (xs : List Int) (bs : List Bool) (a : Nat) (s : Nat) : Bool := bs.getD s false && (bfs k xs bs.length a true).met.getD s false
noncomputable def bestV (k : Nat) (xs : List Int) (bs : List Bool) : Option Nat := pick (okB k xs bs.length (useL k xs bs)) (wd0 k xs bs.length 0) bs.length 0 none
def endV (k : Nat) (xs : List Int) (bs : List Bool) (a : Nat) : Option Nat := pick (okE k xs bs a) (wd0 k xs bs.length a) bs.length 0 none
/-- Is the language finite? Else the three words. -/
noncomputable def boundV (k : Nat) (xs : List Int) (bs : List Bool) : Bool × ByteArray × ByteArray × ByteArray :=
 match bestV k xs bs with
 | none => (true, ByteArray.empty, ByteArray.empty, ByteArray.empty)
 | some b => (false, wd0 k xs bs.length 0 b, lw ((bfs k xs bs.length b false).ws.getD b []), wd0 k xs bs.length b ((endV k xs bs b).getD 0))

theorem slt_lt {a b : ByteArray} (h : (a.size : Int) < (b.size : Int)) : slt a b = true := by
 unfold slt; rw [decide_eq_true (by omega)]; rfl
theorem slt_eq {a b : ByteArray} (h2 : ((a.size : Int) == (b.size : Int)) = true) : slt a b = Op.bytesLess a.toList b.toList := by
 unfold slt
 have : a.size = b.size := by have := of_decide_eq_true (p := (a.size : Int) = b.size) (by simpa using h2); omega
 rw [decide_eq_false (by omega), Bool.false_or, decide_eq_true this, Bool.true_and]
theorem slt_gt {a b : ByteArray} (h : ¬ (a.size : Int) < (b.size : Int)) (h2 : ((a.size : Int) == (b.size : Int)) = false) : slt a b = false := by
 unfold slt
 have : a.size ≠ b.size := fun e => by rw [e] at h2; simp at h2
 rw [decide_eq_false (by omega), Bool.false_or, decide_eq_false this, Bool.false_and]

theorem loop37a {k : Nat} {xs : List Int} {bs : List Bool} (hG : Good k xs bs) {H0 : AHeap} {prot : Nat} {vN vA x4 x5 x3 : Value} {o4 o5 : Nat} {U : List Bool} (hU : U.length = bs.length) : ∀ (d i : Nat) (b : Option Nat) (H : AHeap), i + d = bs.length → (∀ t, b = some t → t < bs.length) →
  H[H0.length]? = some (bx k vN vA) → IsA H xs bs vN vA → H0.length < H.length → (∃ p o l, x3 = .pointer (some ⟨p, o, some l⟩)) →
  Own H 4 1 x4 (some o4) bs.length (bll U) → Own H 9 1 x5 (some o5) bs.length (sl (bfs k xs bs.length 0 true).ws) →
  ∃ H', lpInf (lpOf cfg a37 0 prot H0) ([.pointer (some ⟨H0.length, 0, some 3⟩), x3, x4, x5, .int .i64 (bi b), .int .i64 bs.length, .int .i64 i], H) =
   some (.exit 0, [.pointer (some ⟨H0.length, 0, some 3⟩), x3, x5, .int .i64 (bi (pick (okB k xs bs.length U) (wd0 k xs bs.length 0) d i b))], H') ∧ Stay none H H'
 | 0, i, b, H, hi, hb, hbx, hA, hH, ⟨p, o, l, hx3⟩, w4, w5 => by
  obtain ⟨a4, c4, rfl⟩ := w4.len
  obtain ⟨a5, c5, rfl⟩ := w5.len
  subst hx3
  exact ⟨H, lp_last (f37_L0_7 (by omega)), Stay.refl _ _⟩
 | d + 1, i, b, H, hi, hb, hbx, hA, hH, ⟨p, o, l, hx3⟩, w4, w5 => by
  have hn5 := hG.n5
  have hin : i < bs.length := by omega
  have hok := bfs_ok hG (show 0 < bs.length by omega) true
  obtain ⟨_, e, m1, m2⟩ := own_at T23 w4 (bl_at (show i < U.length by omega))
  cases e
  have fi : Fit .i64 ((i : Int) + 1) := fit64 (by omega) (by omega)
  obtain ⟨_, _, _, gx⟩ := fld3 hbx
  by_cases hu : U.getD i false = true
  ·obtain ⟨x, y, pp, q, c, dd, H2, r1, rfl, rfl, r2, r3, r4, r5⟩ := c65 hG hin false H0.length H hA
   have hok2 := bfs_ok hG hin false
   have v4 := w4.stay r4 (fun id _ h => by cases h)
   have v5 := w5.stay r4 (fun id _ h => by cases h)
   obtain ⟨_, e, p1, p2⟩ := own_at T23 r3 (bl_at (show i < (bfs k xs bs.length i false).met.length by rw [hok2.lm]; exact hin))
   cases e
   have step : ∀ b' : Option Nat, b' = upd (okB k xs bs.length U) (wd0 k xs bs.length 0) i b → (∃ z, lpOf cfg a37 0 prot H0 ([.pointer (some ⟨H0.length, 0, some 3⟩), x3, x4, x5, .int .i64 (bi b), .int .i64 bs.length, .int .i64 i], H) = some (.inl z) ∧ z = ([.pointer (some ⟨H0.length, 0, some 3⟩), x3, x4, x5, .int .i64 (bi b'), .int .i64 bs.length, .int .i64 ((i : Int) + 1)], H2)) →
     ∃ H', lpInf (lpOf cfg a37 0 prot H0) ([.pointer (some ⟨H0.length, 0, some 3⟩), x3, x4, x5, .int .i64 (bi b), .int .i64 bs.length, .int .i64 i], H) =
      some (.exit 0, [.pointer (some ⟨H0.length, 0, some 3⟩), x3, x5, .int .i64 (bi (pick (okB k xs bs.length U) (wd0 k xs bs.length 0) (d + 1) i b))], H') ∧ Stay none H H' := fun b' hb' hz => by
    obtain ⟨z, hz1, rfl⟩ := hz
    obtain ⟨H', u1, u2⟩ := loop37a hG (prot := prot) (x3 := x3) hU d (i + 1) b' H2 (by omega) (fun t ht => by rw [hb'] at ht; rcases upd_some ht with ⟨rfl, _⟩ | h2; exact hin; exact hb t h2) (by rw [r4.2 _ hH (by simp)]; exact hbx) (hA.stay r4) (by omega) ⟨p, o, l, hx3⟩ v4 v5
    exact ⟨H', lp_next hz1 (by rw [pick, ← hb']; exact u1), r4.trans u2⟩
   obtain ⟨aN, cN, rfl⟩ := hA.n.len
   obtain ⟨aA, cA, rfl⟩ := hA.a.len
   obtain ⟨a4, c4, rfl⟩ := w4.len
   obtain ⟨a5, c5, rfl⟩ := w5.len
   subst hx3
   rw [hu] at m2
   by_cases hm : (bfs k xs bs.length i false).met.getD i false = true
   ·rw [hm] at p2
    have hokt : okB k xs bs.length U i = true := by unfold okB; rw [hu, hm]; rfl
    cases b with
    | none => exact step (some i) ((upd_ok (b := none) (wd := wd0 k xs bs.length 0) hokt (v := true) rfl).symm) ⟨_, f37_L0_0 (by omega) m1 m2 rfl gx r1 p1 p2 rfl (by decide) fi, rfl⟩
    | some t =>
     have ht := hb t rfl
     obtain ⟨_, e, q1, q2⟩ := own_at T43 v5 (sl_at (show i < (bfs k xs bs.length 0 true).ws.length by rw [hok.lw]; exact hin))
     cases e
     obtain ⟨_, e, y1, y2⟩ := own_at T43 v5 (sl_at (show t < (bfs k xs bs.length 0 true).ws.length by rw [hok.lw]; exact ht))
     cases e
     have hbt : ¬ (bi (some t) < 0) := by simp only [bi]; omega
     by_cases h1 : ((wd0 k xs bs.length 0 i).size : Int) < ((wd0 k xs bs.length 0 t).size : Int)
     ·exact step (some i) ((upd_ok (b := some t) (wd := wd0 k xs bs.length 0) hokt (v := true) (slt_lt h1)).symm) ⟨_, f37_L0_1 (by omega) m1 m2 rfl gx r1 p1 p2 rfl hbt q1 q2 y1 y2 h1 fi, rfl⟩
     ·cases h2 : (((wd0 k xs bs.length 0 i).size : Int) == ((wd0 k xs bs.length 0 t).size : Int)) with
      | true =>
       have hs := slt_eq h2
       cases h3 : Op.bytesLess (wd0 k xs bs.length 0 i).toList (wd0 k xs bs.length 0 t).toList with
       | true => exact step (some i) ((upd_ok (b := some t) (wd := wd0 k xs bs.length 0) hokt (v := true) (hs.trans h3)).symm) ⟨_, f37_L0_2 (by omega) m1 m2 rfl gx r1 p1 p2 rfl hbt q1 q2 y1 y2 h1 q1 q2 y1 y2 h2 q1 q2 y1 y2 h3 fi, rfl⟩
       | false => exact step (some t) ((upd_ok (b := some t) (wd := wd0 k xs bs.length 0) hokt (v := false) (hs.trans h3)).symm) ⟨_, f37_L0_3 (by omega) m1 m2 rfl gx r1 p1 p2 rfl hbt q1 q2 y1 y2 h1 q1 q2 y1 y2 h2 q1 q2 y1 y2 h3 fi, rfl⟩
      | false => exact step (some t) ((upd_ok (b := some t) (wd := wd0 k xs bs.length 0) hokt (v := false) (slt_gt h1 h2)).symm) ⟨_, f37_L0_4 (by omega) m1 m2 rfl gx r1 p1 p2 rfl hbt q1 q2 y1 y2 h1 q1 q2 y1 y2 h2 fi, rfl⟩
   ·have hm : (bfs k xs bs.length i false).met.getD i false = false := by simpa using hm
    rw [hm] at p2
    exact step b (by unfold upd okB; rw [hm, Bool.and_false, Bool.false_and]; rfl) ⟨_, f37_L0_5 (by omega) m1 m2 rfl gx r1 p1 p2 rfl fi, rfl⟩
  ·have hu : U.getD i false = false := by simpa using hu
   obtain ⟨H', u1, u2⟩ := loop37a hG (prot := prot) (x3 := x3) hU d (i + 1) b H (by omega) hb hbx hA hH ⟨p, o, l, hx3⟩ w4 w5
   obtain ⟨a4, c4, rfl⟩ := w4.len
   obtain ⟨a5, c5, rfl⟩ := w5.len
   subst hx3
   rw [hu] at m2
   refine ⟨H', lp_next (f37_L0_6 (by omega) m1 m2 rfl fi) ?_, u2⟩
   have : upd (okB k xs bs.length U) (wd0 k xs bs.length 0) i b = b := by unfold upd okB; rw [hu, Bool.false_and, Bool.false_and]; rfl
   rw [pick, this]
   exact u1

theorem loop37b {k a : Nat} {xs : List Int} {bs : List Bool} (hG : Good k xs bs) (ha : a < bs.length) {H0 H : AHeap} {prot : Nat} {vN vA x3 x5 x11 x13 x14 : Value} {x7 : Int} {o13 o14 : Nat} (hbx : H[H0.length]? = some (bx k vN vA)) (hA : IsA H xs bs vN vA)
  (h3 : ∃ p o l, x3 = .pointer (some ⟨p, o, some l⟩)) (h5 : ∃ p n c, x5 = .slice p n c) (h11 : ∃ p n c, x11 = .slice p n c)
  (w13 : Own H 9 1 x13 (some o13) bs.length (sl (bfs k xs bs.length a true).ws)) (w14 : Own H 4 1 x14 (some o14) bs.length (bll (bfs k xs bs.length a true).met)) : ∀ (d i : Nat) (b : Option Nat), i + d = bs.length → (∀ t, b = some t → t < bs.length) →
  lpInf (lpOf cfg a37 1 prot H0) ([.pointer (some ⟨H0.length, 0, some 3⟩), x3, x5, .int .i64 x7, x11, x13, x14, .int .i64 (bi b), .int .i64 bs.length, .int .i64 i], H) =
   some (.exit 2, [x3, x5, .int .i64 x7, x11, x13, .int .i64 (bi (pick (okE k xs bs a) (wd0 k xs bs.length a) d i b))], H)
 | 0, i, b, hi, hb => by
  obtain ⟨p, o, l, rfl⟩ := h3
  obtain ⟨_, _, _, rfl⟩ := h5
  obtain ⟨_, _, _, rfl⟩ := h11
  obtain ⟨_, _, rfl⟩ := w13.len
  obtain ⟨_, _, rfl⟩ := w14.len
  exact lp_last (f37_L1_7 (by omega))
 | d + 1, i, b, hi, hb => by
  have hn5 := hG.n5
  have hin : i < bs.length := by omega
  have hok := bfs_ok hG ha true
  have ih := fun b' hb' => loop37b hG ha (prot := prot) hbx hA h3 h5 h11 w13 w14 (x7 := x7) d (i + 1) b' (by omega) hb'
  obtain ⟨idA, LA, n1, n2⟩ := rd_at T23 hA.a (bl_at hin)
  have fi : Fit .i64 ((i : Int) + 1) := fit64 (by omega) (by omega)
  obtain ⟨_, e, p1, p2⟩ := own_at T23 w14 (bl_at (show i < (bfs k xs bs.length a true).met.length by rw [hok.lm]; exact hin))
  cases e
  have step : ∀ b' : Option Nat, b' = upd (okE k xs bs a) (wd0 k xs bs.length a) i b → lpOf cfg a37 1 prot H0 ([.pointer (some ⟨H0.length, 0, some 3⟩), x3, x5, .int .i64 x7, x11, x13, x14, .int .i64 (bi b), .int .i64 bs.length, .int .i64 i], H) = some (.inl ([.pointer (some ⟨H0.length, 0, some 3⟩), x3, x5, .int .i64 x7, x11, x13, x14, .int .i64 (bi b'), .int .i64 bs.length, .int .i64 ((i : Int) + 1)], H)) →
    lpInf (lpOf cfg a37 1 prot H0) ([.pointer (some ⟨H0.length, 0, some 3⟩), x3, x5, .int .i64 x7, x11, x13, x14, .int .i64 (bi b), .int .i64 bs.length, .int .i64 i], H) =
     some (.exit 2, [x3, x5, .int .i64 x7, x11, x13, .int .i64 (bi (pick (okE k xs bs a) (wd0 k xs bs.length a) (d + 1) i b))], H) := fun b' hb' hz => by
   have := ih b' (fun t ht => by rw [hb'] at ht; rcases upd_some ht with ⟨rfl, _⟩ | h2; exact hin; exact hb t h2)
   exact lp_next hz (by rw [pick, ← hb']; exact this)
  obtain ⟨p, o, l, rfl⟩ := h3
  obtain ⟨_, _, _, rfl⟩ := h5
  obtain ⟨_, _, _, rfl⟩ := h11
  have w13' := w13
  obtain ⟨_, _, rfl⟩ := w13.len
  obtain ⟨_, _, rfl⟩ := w14.len
  obtain ⟨aN, cN, rfl⟩ := hA.n.len
  obtain ⟨aA, cA, rfl⟩ := hA.a.len
  obtain ⟨_, _, g2, _⟩ := fld3 hbx
  by_cases hu : bs.getD i false = true
  ·rw [hu] at n2
   by_cases hm : (bfs k xs bs.length a true).met.getD i false = true
   ·rw [hm] at p2
    have hokt : okE k xs bs a i = true := by unfold okE; rw [hu, hm]; rfl
    cases b with
    | none => exact step (some i) ((upd_ok (b := none) (wd := wd0 k xs bs.length a) hokt (v := true) rfl).symm) (f37_L1_0 (by omega) g2 n1 n2 rfl p1 p2 rfl (by decide) fi)
    | some t =>
     have ht := hb t rfl
     obtain ⟨_, e, q1, q2⟩ := own_at T43 w13' (sl_at (show i < (bfs k xs bs.length a true).ws.length by rw [hok.lw]; exact hin))
     cases e
     obtain ⟨_, e, y1, y2⟩ := own_at T43 w13' (sl_at (show t < (bfs k xs bs.length a true).ws.length by rw [hok.lw]; exact ht))
     cases e
     have hbt : ¬ (bi (some t) < 0) := by simp only [bi]; omega
     by_cases h1 : ((wd0 k xs bs.length a i).size : Int) < ((wd0 k xs bs.length a t).size : Int)
     ·exact step (some i) ((upd_ok (b := some t) (wd := wd0 k xs bs.length a) hokt (v := true) (slt_lt h1)).symm) (f37_L1_1 (by omega) g2 n1 n2 rfl p1 p2 rfl hbt q1 q2 y1 y2 h1 fi)
     ·cases h2 : (((wd0 k xs bs.length a i).size : Int) == ((wd0 k xs bs.length a t).size : Int)) with
      | true =>
       have hs := slt_eq h2
       cases h3 : Op.bytesLess (wd0 k xs bs.length a i).toList (wd0 k xs bs.length a t).toList with
       | true => exact step (some i) ((upd_ok (b := some t) (wd := wd0 k xs bs.length a) hokt (v := true) (hs.trans h3)).symm) (f37_L1_2 (by omega) g2 n1 n2 rfl p1 p2 rfl hbt q1 q2 y1 y2 h1 q1 q2 y1 y2 h2 q1 q2 y1 y2 h3 fi)
       | false => exact step (some t) ((upd_ok (b := some t) (wd := wd0 k xs bs.length a) hokt (v := false) (hs.trans h3)).symm) (f37_L1_3 (by omega) g2 n1 n2 rfl p1 p2 rfl hbt q1 q2 y1 y2 h1 q1 q2 y1 y2 h2 q1 q2 y1 y2 h3 fi)
      | false => exact step (some t) ((upd_ok (b := some t) (wd := wd0 k xs bs.length a) hokt (v := false) (slt_gt h1 h2)).symm) (f37_L1_4 (by omega) g2 n1 n2 rfl p1 p2 rfl hbt q1 q2 y1 y2 h1 q1 q2 y1 y2 h2 fi)
   ·have hm : (bfs k xs bs.length a true).met.getD i false = false := by simpa using hm
    rw [hm] at p2
    exact step b ((upd_no (by unfold okE; rw [hm, Bool.and_false])).symm) (f37_L1_5 (by omega) g2 n1 n2 rfl p1 p2 rfl fi)
  ·have hu : bs.getD i false = false := by simpa using hu
   rw [hu] at n2
   exact step b ((upd_no (by unfold okE; rw [hu, Bool.false_and])).symm) (f37_L1_6 (by omega) g2 n1 n2 rfl fi)

/-- Where there is a best state there is an end. -/
theorem best_end {k : Nat} {xs : List Int} {bs : List Bool} (hG : Good k xs bs) {b : Nat} (h : bestV k xs bs = some b) : b < bs.length ∧ okB k xs bs.length (useL k xs bs) b = true ∧ ∃ e, endV k xs bs b = some e ∧ e < bs.length ∧ okE k xs bs b e = true := by
 rcases pick_some _ _ _ h with ⟨_, h2, h3⟩ | h1
 ·have hb : b < bs.length := by omega
  refine ⟨hb, h3, ?_⟩
  have hu : (useL k xs bs).getD b false = true := by unfold okB at h3; exact (Bool.and_eq_true _ _ ▸ h3).1
  rw [useL_at hb] at hu
  have hh : (hopeL k xs bs).getD b false = true := (Bool.and_eq_true _ _ ▸ hu).2
  rw [List.getD_eq_getElem?_getD, List.getElem?_eq_getElem (by rw [hopeL_len]; exact hb), Option.getD_some, hopeL_get] at hh
  obtain ⟨w, hw, ha⟩ := @of_decide_eq_true _ (Classical.propDecidable _) hh
  cases he : endV k xs bs b with
  | some e =>
   rcases pick_some _ _ _ he with ⟨_, h5, h6⟩ | h5
   ·exact ⟨e, rfl, by omega, h6⟩
   ·cases h5
  | none =>
   obtain ⟨_, h5⟩ := pick_none _ _ _ he
   have hl := go_lt hG w b hw hb
   have := h5 _ (Nat.zero_le _) (by omega : go k xs b w < 0 + bs.length)
   unfold okE at this
   rw [ha, Bool.true_and, (bfs_met hG hb true _).2 ⟨w, hw, rfl, fun h => by cases h⟩] at this
   cases this
 ·cases h1
end Go.Proofs.Ythjkodbinkiifaa.Am23
set_option linter.unusedVariables false
open Go Go.Proofs.Ythjkodbinkiifaa.Am
namespace Go.Proofs.Ythjkodbinkiifaa.Am23
end Go.Proofs.Ythjkodbinkiifaa.Am23
namespace Go.Proofs.Ythjkodbinkiifaa.Am23
open Go Go.Proofs.Ythjkodbinkiifaa.Am

theorem setAll3 {H : AHeap} {p prot : Nat} {a b c x y z : Value} {e : TypeId} (h : H[p]? = some (.cells [a, b, c] e 3 .var)) (hp : prot ≤ p) (hv : [x, y, z].all isCell = true) : setCells H prot p 3 0 [x, y, z] = some (H.set p (.cells [x, y, z] e 3 .var)) := by
 unfold setCells
 rw [h]
 simp only
 rw [if_pos ⟨rfl, hp, rfl, by simp, hv⟩]
 rfl

theorem gc_agg {H H' : AHeap} {cs : Array Value} (h : plain1 (.agg cs) = false) : gc H [.agg cs] H' = (.agg cs, H') := by
 unfold gc
 have : keepAll H.length H' [.agg cs] [] = none := by
  simp only [keepAll, keep1]
  rw [if_neg (by rw [h]; simp)]
  rfl
 rw [this]
 split <;> rfl

end Go.Proofs.Ythjkodbinkiifaa.Am23
set_option linter.unusedVariables false
open Go Go.Proofs.Ythjkodbinkiifaa.Am
namespace Go.Proofs.Ythjkodbinkiifaa.Am23
section
variable {x0a x8a x9 x15a : Int}
variable {x0ba x0ca x8ba x8ca x15ba x15ca : Option Addr}
variable {x0bn x0bc x0cn x0cc prot x8bn x8bc x8cn x8cc x15bn x15bc x15cn x15cc : Nat}
variable {H H1 H2 : AHeap}
variable {wa wb wc x16ba x16bb x16bc x20a x20b x20c : ByteArray}
variable {x16a : Bool}
theorem f13_F_0 (h1 : [vI x0a, vS x0ba x0bn x0bc, vS x0ca x0cn x0cc].all isCell = true) (h2 : getCells (H ++ [vo [vI x0a, vS x0ba x0bn x0bc, vS x0ca x0cn x0cc] 25] ++ [vo [vE, vE, vE] 29]) H.length 3 0 3 = some [vI x8a, vS x8ba x8bn x8bc, vS x8ca x8cn x8cc]) (h3 : cI 36 [Value.agg #[vI x8a, vS x8ba x8bn x8bc, vS x8ca x8cn x8cc]] H.length (H ++ [vo [vI x0a, vS x0ba x0bn x0bc, vS x0ca x0cn x0cc] 25] ++ [vo [vE, vE, vE] 29]) = some (vI x9, H ++ [vo [vI x0a, vS x0ba x0bn x0bc, vS x0ca x0cn x0cc] 25] ++ [vo [vE, vE, vE] 29])) (h4 : (x9 != 0) = true) (h5 : 3 = 3) (h6 : setCells (H ++ [vo [vI x0a, vS x0ba x0bn x0bc, vS x0ca x0cn x0cc] 25] ++ [vo [vE, vE, vE] 29]) H.length (List.length (H ++ [vo [vI x0a, vS x0ba x0bn x0bc, vS x0ca x0cn x0cc] 25])) 3 0 [vE, vE, vE] = some H1) (h7 : getCells H1 (List.length (H ++ [vo [vI x0a, vS x0ba x0bn x0bc, vS x0ca x0cn x0cc] 25])) 3 0 3 = some [Value.string wa, Value.string wb, Value.string wc]) : callInf cfg 13 [.agg #[.int .i64 x0a, .slice x0ba x0bn x0bc, .slice x0ca x0cn x0cc]] prot H = some (Value.tuple { toList := [Value.bool false, Value.agg { toList := [Value.string wa, Value.string wb, Value.string wc] }, Value.int .i64 x9] }, H) :=
 fn_of2 a13 [.e, .e, .v (.agg #[vI x8a, vS x8ba x8bn x8bc, vS x8ca x8cn x8cc]), .v (vI x9), .e, .b true, .e, .h H1, .v (.agg #[.string wa, .string wb, .string wc])] (ai h1 (ai h2 (ai h3 (ai h4 (ai h5 (ai h6 (ai h7 (Eq.refl ((Value.tuple #[Value.bool false, Value.agg #[Value.string wa, Value.string wb, Value.string wc], vI x9], H) : Value × AHeap))))))))) (by kernel_rfl) rfl
theorem f13_F_1 (h1 : [vI x0a, vS x0ba x0bn x0bc, vS x0ca x0cn x0cc].all isCell = true) (h2 : getCells (H ++ [vo [vI x0a, vS x0ba x0bn x0bc, vS x0ca x0cn x0cc] 25] ++ [vo [vE, vE, vE] 29]) H.length 3 0 3 = some [vI x8a, vS x8ba x8bn x8bc, vS x8ca x8cn x8cc]) (h3 : cI 36 [Value.agg #[vI x8a, vS x8ba x8bn x8bc, vS x8ca x8cn x8cc]] H.length (H ++ [vo [vI x0a, vS x0ba x0bn x0bc, vS x0ca x0cn x0cc] 25] ++ [vo [vE, vE, vE] 29]) = some (vI x9, H ++ [vo [vI x0a, vS x0ba x0bn x0bc, vS x0ca x0cn x0cc] 25] ++ [vo [vE, vE, vE] 29])) (h4 : (x9 != 0) = false) (h5 : getCells (H ++ [vo [vI x0a, vS x0ba x0bn x0bc, vS x0ca x0cn x0cc] 25] ++ [vo [vE, vE, vE] 29]) H.length 3 0 3 = some [vI x15a, vS x15ba x15bn x15bc, vS x15ca x15cn x15cc]) (h6 : cI 37 [Value.agg #[vI x15a, vS x15ba x15bn x15bc, vS x15ca x15cn x15cc]] H.length (H ++ [vo [vI x0a, vS x0ba x0bn x0bc, vS x0ca x0cn x0cc] 25] ++ [vo [vE, vE, vE] 29]) = some (Value.tuple #[Value.bool x16a, Value.agg #[Value.string x16ba, Value.string x16bb, Value.string x16bc]], H ++ [vo [vI x0a, vS x0ba x0bn x0bc, vS x0ca x0cn x0cc] 25] ++ [vo [vE, vE, vE] 29])) (h7 : 3 = 3) (h8 : setCells (H ++ [vo [vI x0a, vS x0ba x0bn x0bc, vS x0ca x0cn x0cc] 25] ++ [vo [vE, vE, vE] 29] ++ [vo [vE, vE, vE] 29]) H.length (List.length (H ++ [vo [vI x0a, vS x0ba x0bn x0bc, vS x0ca x0cn x0cc] 25] ++ [vo [vE, vE, vE] 29])) 3 0 [Value.string x16ba, Value.string x16bb, Value.string x16bc] = some H1) (h9 : getCells H1 (List.length (H ++ [vo [vI x0a, vS x0ba x0bn x0bc, vS x0ca x0cn x0cc] 25] ++ [vo [vE, vE, vE] 29])) 3 0 3 = some [Value.string x20a, Value.string x20b, Value.string x20c]) (h10 : 3 = 3) (h11 : setCells H1 H.length (List.length (H ++ [vo [vI x0a, vS x0ba x0bn x0bc, vS x0ca x0cn x0cc] 25])) 3 0 [Value.string x20a, Value.string x20b, Value.string x20c] = some H2) (h12 : getCells H2 (List.length (H ++ [vo [vI x0a, vS x0ba x0bn x0bc, vS x0ca x0cn x0cc] 25])) 3 0 3 = some [Value.string wa, Value.string wb, Value.string wc]) : callInf cfg 13 [.agg #[.int .i64 x0a, .slice x0ba x0bn x0bc, .slice x0ca x0cn x0cc]] prot H = some (Value.tuple { toList := [Value.bool x16a, Value.agg { toList := [Value.string wa, Value.string wb, Value.string wc] }, Value.int .i64 0] }, H) :=
 fn_of2 a13 [.e, .e, .v (.agg #[vI x8a, vS x8ba x8bn x8bc, vS x8ca x8cn x8cc]), .v (vI x9), .e, .b false, .v (.agg #[vI x15a, vS x15ba x15bn x15bc, vS x15ca x15cn x15cc]), .v (.tuple #[.bool x16a, .agg #[.string x16ba, .string x16bb, .string x16bc]]), .e, .h H1, .v (.agg #[.string x20a, .string x20b, .string x20c]), .h H2, .v (.agg #[.string wa, .string wb, .string wc])] (ai h1 (ai h2 (ai h3 (ai h4 (ai h5 (ai h6 (ai h7 (ai h8 (ai h9 (ai h10 (ai h11 (ai h12 (Eq.refl ((Value.tuple #[Value.bool x16a, Value.agg #[Value.string wa, Value.string wb, Value.string wc], vI 0], H) : Value × AHeap)))))))))))))) (by kernel_rfl) rfl
end
end Go.Proofs.Ythjkodbinkiifaa.Am23
namespace Go.Proofs.Ythjkodbinkiifaa.Am23
open Go Go.Proofs.Ythjkodbinkiifaa.Am

abbrev pv (v : ByteArray × ByteArray × ByteArray) : Value := .agg #[.string v.1, .string v.2.1, .string v.2.2]
theorem set3s {H : AHeap} {p prot : Nat} {a b c x y z : Value} {e : TypeId} (h : H[p]? = some (.cells [a, b, c] e 3 .var)) (hp : prot ≤ p) (hv : [x, y, z].all isCell = true) :
  ∃ H', setCells H prot p 3 0 [x, y, z] = some H' ∧ getCells H' p 3 0 3 = some [x, y, z] ∧ Stay (some p) H H' ∧ H'[p]? = some (.cells [x, y, z] e 3 .var) := by
 have hl := (List.getElem?_eq_some_iff.1 h).1
 have hg : (H.set p (.cells [x, y, z] e 3 .var))[p]? = some (.cells [x, y, z] e 3 .var) := List.getElem?_set_self hl
 exact ⟨_, setAll3 h hp hv, (fld3 hg).2.2.2, ⟨by simp, fun q _ hq => List.getElem?_set_ne (fun e => hq (by rw [e]))⟩, hg⟩

theorem c37 {k : Nat} {xs : List Int} {bs : List Bool} {vN vA : Value} (hG : Good k xs bs) (prot : Nat) (H : AHeap) (hA : IsA H xs bs vN vA) :
  callInf cfg 37 [av k vN vA] prot H = some (.tuple #[.bool (boundV k xs bs).1, pv (boundV k xs bs).2], H) := by
 have hb1 := hG.n1
 have hb5 := hG.n5
 obtain ⟨B0, hB0⟩ : ∃ B0, B0 = AObj.cells [.string ByteArray.empty, .string ByteArray.empty, .string ByteArray.empty] 29 3 .var := ⟨_, rfl⟩
 obtain ⟨HX, hHX⟩ : ∃ HX, HX = H ++ [bx k vN vA] ++ [B0] := ⟨_, rfl⟩
 have lX : HX.length = H.length + 2 := by rw [hHX]; simp
 have sX : Stay none H HX := by rw [hHX]; exact (Stay.app none H _).trans (Stay.app none _ _)
 have hgX : HX[H.length]? = some (bx k vN vA) := by rw [hHX, List.getElem?_append_left (by simp)]; exact append_get.1
 have hgX1 : HX[H.length + 1]? = some B0 := by rw [hHX, List.getElem?_append_right (by simp)]; simp
 have hAX := hA.stay sX
 obtain ⟨p1, d1, H1, r1, r2, r3⟩ := c53 hG H.length HX hAX
 obtain ⟨x, y, p2, q2, c2, d2, H2, s1, rfl, rfl, s2, s3, s4, s5⟩ := c65 hG (a := 0) (by omega) true H.length H1 (hAX.stay r3)
 have hg1 : H1[H.length]? = some (bx k vN vA) := by rw [r3.2 _ (by omega) (by simp)]; exact hgX
 have st2 := r3.trans s4
 have hg2 : H2[H.length]? = some (bx k vN vA) := by rw [st2.2 _ (by omega) (by simp)]; exact hgX
 have l2 := st2.1
 obtain ⟨H3, t1, t2⟩ := loop37a hG (prot := prot) (x3 := .pointer (some ⟨H.length + 1, 0, some 3⟩)) (useL_len k xs bs) bs.length 0 none H2 (by omega) (fun t h => by cases h) hg2 (hAX.stay st2) (by omega) ⟨_, _, _, rfl⟩ (r2.stay s4 (fun id _ h => by cases h)) s2
 have st3 := st2.trans t2
 have l3 := st3.1
 have hg3 : H3[H.length]? = some (bx k vN vA) := by rw [st3.2 _ (by omega) (by simp)]; exact hgX
 have hg31 : H3[H.length + 1]? = some B0 := by rw [st3.2 _ (by omega) (by simp)]; exact hgX1
 have hA3 := hAX.stay st3
 rw [show pick (okB k xs bs.length (useL k xs bs)) (wd0 k xs bs.length 0) bs.length 0 none = bestV k xs bs from rfl] at t1
 have e1 : (H ++ [bx k vN vA]).length = H.length + 1 := by simp
 obtain ⟨aN, cN, rfl⟩ := hA.n.len
 obtain ⟨aA, cA, rfl⟩ := hA.a.len
 obtain ⟨_, _, _, gX⟩ := fld3 hgX
 obtain ⟨_, _, _, g1⟩ := fld3 hg1
 cases hbv : bestV k xs bs with
 | none =>
  rw [hbv] at t1
  rw [hB0] at hg31
  obtain ⟨H4, u1, u2, _, _⟩ := set3s hg31 (show H.length ≤ H.length + 1 by omega) (x := .string ByteArray.empty) (y := .string ByteArray.empty) (z := .string ByteArray.empty) rfl
  have hv : boundV k xs bs = (true, ByteArray.empty, ByteArray.empty, ByteArray.empty) := by unfold boundV; rw [hbv]
  rw [hv]
  subst hHX; subst hB0
  rw [← e1] at t1 u1 u2
  exact f37_F_0 all3 gX r1 g1 s1 t1 (by decide) rfl u1 u2
 | some b =>
  rw [hbv] at t1
  obtain ⟨hb, _, e, he1, he2, he3⟩ := best_end hG hbv
  obtain ⟨x4, y4, p4, q4, c4, d4, H4, v1, rfl, rfl, v2, v3, v4, v5⟩ := c65 hG hb false H.length H3 hA3
  obtain ⟨x5, y5, p5, q5, c5, d5, H5, w1, rfl, rfl, w2, w3, w4, w5⟩ := c65 hG hb true H.length H4 (hA3.stay v4)
  have st5 := st3.trans (v4.trans w4)
  have l5 := st5.1
  have hg4 : H4[H.length]? = some (bx k (.slice aN xs.length cN) (.slice aA bs.length cA)) := by rw [(st3.trans v4).2 _ (by omega) (by simp)]; exact hgX
  have hg5 : H5[H.length]? = some (bx k (.slice aN xs.length cN) (.slice aA bs.length cA)) := by rw [st5.2 _ (by omega) (by simp)]; exact hgX
  have hg51 : H5[H.length + 1]? = some B0 := by rw [st5.2 _ (by omega) (by simp)]; exact hgX1
  have hA5 := hAX.stay st5
  have hl := loop37b hG hb (prot := prot) (x3 := .pointer (some ⟨H.length + 1, 0, some 3⟩)) (x5 := .slice p2 bs.length c2) (x11 := .slice p4 bs.length c4) (x7 := (b : Int)) hg5 hA5 ⟨_, _, _, rfl⟩ ⟨_, _, _, rfl⟩ ⟨_, _, _, rfl⟩ w2 w3 bs.length 0 none (by omega) (fun t h => by cases h)
  rw [show pick (okE k xs bs b) (wd0 k xs bs.length b) bs.length 0 none = endV k xs bs b from rfl, he1] at hl
  have hok0 := bfs_ok hG (show 0 < bs.length by omega) true
  have hokf := bfs_ok hG hb false
  have hokt := bfs_ok hG hb true
  have o5 := s2.stay (t2.trans (v4.trans w4)) (fun id _ h => by cases h)
  have o11 := v2.stay w4 (fun id _ h => by cases h)
  obtain ⟨_, ee, y1, y2⟩ := own_at T43 o5 (sl_at (show b < (bfs k xs bs.length 0 true).ws.length by rw [hok0.lw]; exact hb))
  cases ee
  obtain ⟨_, ee, z1, z2⟩ := own_at T43 o11 (sl_at (show b < (bfs k xs bs.length b false).ws.length by rw [hokf.lw]; exact hb))
  cases ee
  obtain ⟨_, ee, q1, q2'⟩ := own_at T43 w2 (sl_at (show e < (bfs k xs bs.length b true).ws.length by rw [hokt.lw]; exact he2))
  cases ee
  rw [hB0] at hg51
  obtain ⟨H6, u1, u2, _, _⟩ := set3s hg51 (show H.length ≤ H.length + 1 by omega) (x := .string (wd0 k xs bs.length 0 b)) (y := .string (lw ((bfs k xs bs.length b false).ws.getD b []))) (z := .string (wd0 k xs bs.length b e)) rfl
  have hv : boundV k xs bs = (false, wd0 k xs bs.length 0 b, lw ((bfs k xs bs.length b false).ws.getD b []), wd0 k xs bs.length b e) := by unfold boundV; rw [hbv]; simp only; rw [he1]; rfl
  rw [hv]
  obtain ⟨_, _, _, g3⟩ := fld3 hg3
  obtain ⟨_, _, _, g4⟩ := fld3 hg4
  obtain ⟨_, _, g5, _⟩ := fld3 hg5
  subst hHX; subst hB0
  rw [← e1] at t1 u1 u2 hl
  exact f37_F_1 all3 gX r1 g1 s1 t1 (by simp only [bi]; omega) g3 v1 g4 w1 g5 hl y1 y2 z1 z2 q1 q2' rfl u1 u2

/-- What Finite answers. -/
noncomputable def finV (k : Int) (xs : List Int) (bs : List Bool) : Bool × (ByteArray × ByteArray × ByteArray) × Int :=
 if chkG k xs bs = 0 then ((boundV k.toNat xs bs).1, (boundV k.toNat xs bs).2, 0) else (false, (ByteArray.empty, ByteArray.empty, ByteArray.empty), chkG k xs bs)
theorem c13 {k : Int} {xs : List Int} {bs : List Bool} {vN vA : Value} (prot : Nat) (H : AHeap) (hA : IsA H xs bs vN vA) :
  callInf cfg 13 [av k vN vA] prot H = some (.tuple #[.bool (finV k xs bs).1, pv (finV k xs bs).2.1, .int .i64 (finV k xs bs).2.2], H) := by
 obtain ⟨B0, hB0⟩ : ∃ B0, B0 = AObj.cells [.string ByteArray.empty, .string ByteArray.empty, .string ByteArray.empty] 29 3 .var := ⟨_, rfl⟩
 obtain ⟨HX, hHX⟩ : ∃ HX, HX = H ++ [bx k vN vA] ++ [B0] := ⟨_, rfl⟩
 have lX : HX.length = H.length + 2 := by rw [hHX]; simp
 have sX : Stay none H HX := by rw [hHX]; exact (Stay.app none H _).trans (Stay.app none _ _)
 have hgX : HX[H.length]? = some (bx k vN vA) := by rw [hHX, List.getElem?_append_left (by simp)]; exact append_get.1
 have hgX1 : HX[H.length + 1]? = some B0 := by rw [hHX, List.getElem?_append_right (by simp)]; simp
 have hAX := hA.stay sX
 have hck := c36 (k := k) H.length HX hAX
 have e1 : (H ++ [bx k vN vA]).length = H.length + 1 := by simp
 by_cases h0 : chkG k xs bs = 0
 ·obtain ⟨k', rfl, hG⟩ := good_of h0
  have hb := c37 hG H.length HX hAX
  have hv : finV k' xs bs = ((boundV k' xs bs).1, (boundV k' xs bs).2, 0) := by unfold finV; rw [if_pos h0, Int.toNat_natCast]
  rw [hv]
  rw [h0] at hck
  obtain ⟨aN, cN, rfl⟩ := hA.n.len
  obtain ⟨aA, cA, rfl⟩ := hA.a.len
  obtain ⟨_, _, _, gX⟩ := fld3 hgX
  have hgY : (HX ++ [B0])[HX.length]? = some B0 := append_get.1
  rw [hB0] at hgY
  obtain ⟨H1, u1, u2, u3, _⟩ := set3s hgY (show H.length ≤ HX.length by omega) (x := .string (boundV k' xs bs).2.1) (y := .string (boundV k' xs bs).2.2.1) (z := .string (boundV k' xs bs).2.2.2) rfl
  have hg1 : H1[H.length + 1]? = some B0 := by
   rw [u3.2 _ (by simp; omega) (fun h => by have := Option.some.inj h; omega), List.getElem?_append_left (by omega)]; exact hgX1
  rw [hB0] at hg1
  obtain ⟨H2, v1, v2, v3, _⟩ := set3s hg1 (show H.length ≤ H.length + 1 by omega) (x := .string (boundV k' xs bs).2.1) (y := .string (boundV k' xs bs).2.2.1) (z := .string (boundV k' xs bs).2.2.2) rfl
  subst hHX; subst hB0
  rw [← e1] at v1 v2
  exact f13_F_1 all3 gX hck rfl gX hb rfl u1 u2 rfl v1 v2
 ·have hv : finV k xs bs = (false, (ByteArray.empty, ByteArray.empty, ByteArray.empty), chkG k xs bs) := by unfold finV; rw [if_neg h0]
  rw [hv]
  obtain ⟨aN, cN, rfl⟩ := hA.n.len
  obtain ⟨aA, cA, rfl⟩ := hA.a.len
  obtain ⟨_, _, _, gX⟩ := fld3 hgX
  rw [hB0] at hgX1
  obtain ⟨H2, v1, v2, v3, _⟩ := set3s hgX1 (show H.length ≤ H.length + 1 by omega) (x := .string ByteArray.empty) (y := .string ByteArray.empty) (z := .string ByteArray.empty) rfl
  subst hHX; subst hB0
  rw [← e1] at v1 v2
  exact f13_F_0 all3 gX hck (by simpa using h0) rfl v1 v2
end Go.Proofs.Ythjkodbinkiifaa.Am23
namespace Go.Proofs.Ythjkodbinkiifaa.Am
open Go

end Go.Proofs.Ythjkodbinkiifaa.Am
namespace Go.Proofs.Ythjkodbinkiifaa.Am
open Go
theorem Rd.stayNe {H H' : AHeap} {e s : Nat} {x : Value} {n : Nat} {cs : List Value} (h : Rd H e s x n cs) {o : Option Nat} (k : Stay o H H') (hne : ∀ id off L n c, x = .slice (some ⟨id, off, some L⟩) n c → o ≠ some id) : Rd H' e s x n cs := by
 refine ⟨h.1, ?_⟩
 rcases h.2 with h2 | ⟨id, L, wr, md, c, all, h2, h3, h4, h5, h6, h7⟩
 ·exact .inl h2
 ·exact .inr ⟨id, L, wr, md, c, all, h2, h3, h4, h5, by rw [k.2 id (List.getElem?_eq_some_iff.1 h6).1 (hne _ _ _ _ _ h2)]; exact h6, h7⟩
end Go.Proofs.Ythjkodbinkiifaa.Am
set_option linter.unusedVariables false
open Go Go.Proofs.Ythjkodbinkiifaa.Am
namespace Go.Proofs.Ythjkodbinkiifaa.Am23
end Go.Proofs.Ythjkodbinkiifaa.Am23
set_option linter.unusedVariables false
open Go Go.Proofs.Ythjkodbinkiifaa.Am
namespace Go.Proofs.Ythjkodbinkiifaa.Am23
end Go.Proofs.Ythjkodbinkiifaa.Am23
namespace Go.Proofs.Ythjkodbinkiifaa.Am23
open Go Go.Proofs.Ythjkodbinkiifaa.Am

theorem pfin_agg {fn : AFunc} {H H' : AHeap} {cs : Array Value} (hm : fn.muts = false) (h : plain1 (.agg cs) = false) : pfin fn H [.agg cs] H' = (.agg cs, H') := by
 rw [pfin_eq, if_neg (by rw [hm]; simp)]
 exact gc_agg h
theorem plain_no2 {a b c : Value} (h : plain0 c = false) : plain1 (.agg #[a, b, c]) = false := by
 show (plain0 a && (plain0 b && (plain0 c && true))) = false
 rw [h]; simp
end Go.Proofs.Ythjkodbinkiifaa.Am23
set_option linter.unusedVariables false
open Go Go.Proofs.Ythjkodbinkiifaa.Am
namespace Go.Proofs.Ythjkodbinkiifaa.Am23
end Go.Proofs.Ythjkodbinkiifaa.Am23
set_option linter.unusedVariables false
open Go Go.Proofs.Ythjkodbinkiifaa.Am
namespace Go.Proofs.Ythjkodbinkiifaa.Am23
section
variable {x0 : Int}
variable {H : AHeap}
variable {prot : Nat}
theorem f15_F_0 : callInf cfg 15 [.int .i64 x0] prot H = some (Value.int .i64 x0, H) :=
 fn_of2 a15 [] (Eq.refl ((vI x0, H) : Value × AHeap)) (by kernel_rfl) rfl
end
end Go.Proofs.Ythjkodbinkiifaa.Am23
namespace Go.Proofs.Ythjkodbinkiifaa.Am23
open Go Go.Proofs.Ythjkodbinkiifaa.Am

theorem cKnows (prot : Nat) (H : AHeap) : callInf cfg 12 [] prot H = some (.bool true, H) := by
 refine callInf_body ?_
 unfold callWith
 have h : cfg.code 12 = some a12 := rfl
 rw [h]
 rfl

/-! ### The words of a language and those of what is left -/
theorem getD_set {D : List Nat} {i s v : Nat} (hi : i < D.length) : (D.set i v).getD s 0 = if s = i then v else D.getD s 0 := by
 simp only [List.getD_eq_getElem?_getD, List.getElem?_set]
 by_cases h : s = i
 ·subst h; simp [hi]
 ·rw [if_neg h, if_neg (fun e => h e.symm)]
theorem pass_sum {k : Nat} {xs : List Int} {bs : List Bool} (hG : Good k xs bs) {C C' : List Nat} {q : Nat} (hC : ∀ t, t < bs.length → C.getD t 0 + C'.getD t 0 = q) : ∀ (d i : Nat) (D D' : List Nat), i + d = xs.length → D.length = bs.length → D'.length = bs.length →
  (∀ s, s < bs.length → D.getD s 0 + D'.getD s 0 = q * min k (i - s * k)) → ∀ s, s < bs.length → (pass k xs C d i D).getD s 0 + (pass k xs C' d i D').getD s 0 = q * min k (xs.length - s * k)
 | 0, i, D, D', hi, hD, hD', h, s, hs => by
  simp only [pass]
  rw [h s hs]
  have : i = xs.length := by omega
  rw [this]
 | d + 1, i, D, D', hi, hD, hD', h, s, hs => by
  simp only [pass]
  have hk := hG.k1
  have hxl := hG.nx
  have hil : i < xs.length := by omega
  obtain ⟨t, ht, htl⟩ := hG.r i xs[i] (List.getElem?_eq_getElem hil)
  have hget : xs.getD i 0 = t := by rw [List.getD_eq_getElem?_getD, List.getElem?_eq_getElem hil, ht]; rfl
  have hsi : i / k < bs.length := Nat.div_lt_of_lt_mul (by rw [Nat.mul_comm]; omega)
  rw [hget, Int.toNat_natCast]
  refine pass_sum hG hC d (i + 1) _ _ (by omega) (by simp; omega) (by simp; omega) (fun s hs => ?_) s hs
  rw [getD_set (by omega), getD_set (by omega)]
  have hdm := Nat.div_add_mod i k
  have hml := Nat.mod_lt i (show 0 < k by omega)
  by_cases he : s = i / k
  ·rw [if_pos he, if_pos he]
   have h1 := h (i / k) hsi
   have h2 := hC t htl
   have e1 : min k (i - i / k * k) = i % k := by rw [Nat.mul_comm] at hdm ⊢; rw [show k * (i / k) = i / k * k from Nat.mul_comm _ _]; omega
   have e2 : min k (i + 1 - s * k) = i % k + 1 := by rw [he]; rw [Nat.mul_comm] at hdm; omega
   rw [e1] at h1
   rw [e2, Nat.mul_add, Nat.mul_one]
   omega
  ·rw [if_neg he, if_neg he, h s hs]
   congr 1
   rcases Nat.lt_or_ge s (i / k) with hlt | hge
   ·have := Nat.mul_le_mul (show s + 1 ≤ i / k by omega) (Nat.le_refl k)
    rw [Nat.add_mul, Nat.one_mul] at this
    rw [Nat.mul_comm] at hdm
    omega
   ·have := Nat.mul_le_mul (show i / k + 1 ≤ s by omega) (Nat.le_refl k)
    rw [Nat.add_mul, Nat.one_mul] at this
    rw [Nat.mul_comm] at hdm
    omega
theorem Good.not {k : Nat} {xs : List Int} {bs : List Bool} (hG : Good k xs bs) : Good k xs (bs.map (!·)) := by
 refine ⟨hG.k1, hG.k8, by simp; exact hG.n1, by simp; exact hG.n5, by simp; exact hG.nx, fun i x hx => ?_⟩
 obtain ⟨t, h1, h2⟩ := hG.r i x hx
 exact ⟨t, h1, by simpa using h2⟩
theorem rowC_sum {k : Nat} {xs : List Int} {bs : List Bool} (hG : Good k xs bs) : ∀ (m s : Nat), s < bs.length → (rowC k xs bs m).getD s 0 + (rowC k xs (bs.map (!·)) m).getD s 0 = k ^ m
 | 0, s, hs => by
  simp only [rowC, List.getD_eq_getElem?_getD, List.getElem?_map, List.getElem?_eq_getElem hs, Option.map_some, Option.getD_some, Nat.pow_zero]
  cases bs[s] <;> simp [b2n]
 | m + 1, s, hs => by
  simp only [rowC, List.length_map]
  have := pass_sum hG (C := rowC k xs bs m) (C' := rowC k xs (bs.map (!·)) m) (q := k ^ m) (fun t ht => rowC_sum hG m t ht) xs.length 0 (List.replicate bs.length 0) (List.replicate bs.length 0) (by omega) (by simp) (by simp)
   (fun s hs => by simp [List.getD_eq_getElem?_getD, hs]) s hs
  rw [this, Nat.pow_succ]
  congr 1
  have hxl := hG.nx
  have := Nat.mul_le_mul (show s + 1 ≤ bs.length by omega) (Nat.le_refl k)
  rw [Nat.add_mul, Nat.one_mul] at this
  omega

end Go.Proofs.Ythjkodbinkiifaa.Am23
set_option linter.unusedVariables false
open Go Go.Proofs.Ythjkodbinkiifaa.Am
namespace Go.Proofs.Ythjkodbinkiifaa.Am23
section
variable {x0a x7 x30a wa x17 x18 : Int}
variable {x0ba x0ca x9a x11a x13a x16a x30ba x30ca wba wca x24a : Option Addr}
variable {x0bn x0bc x0cn x0cc prot x9n x9c x11n x11c x13n x13c x16n x16c z2p z2o z2l z3p z3o z3l x30bn x30bc x30cn x30cc wbn wbc wcn wcc x2p x2o x2l x3p x3o x3l x21p x21o x21l x24n x24c x28p x28o x28l : Nat}
variable {H H1 H2 H3 H4 H0 : AHeap}
variable {x22 : Bool}
theorem f40_F_0 (rv : Value) (rH : AHeap) (h1 : [vI x0a, vS x0ba x0bn x0bc, vS x0ca x0cn x0cc].all isCell = true) (h2 : getCells (H ++ [vo [vI x0a, vS x0ba x0bn x0bc, vS x0ca x0cn x0cc] 25] ++ [vo [vI 0, vS none 0 0, vS none 0 0] 25] ++ [AObj.hole, AObj.hole]) H.length 3 (0 + 0) 1 = some [vI x7]) (h3 : getCells (H ++ [vo [vI x0a, vS x0ba x0bn x0bc, vS x0ca x0cn x0cc] 25] ++ [vo [vI 0, vS none 0 0, vS none 0 0] 25] ++ [AObj.hole, AObj.hole]) H.length 3 (0 + 1) 1 = some [vS x9a x9n x9c]) (h4 : getCells (H ++ [vo [vI x0a, vS x0ba x0bn x0bc, vS x0ca x0cn x0cc] 25] ++ [vo [vI 0, vS none 0 0, vS none 0 0] 25] ++ [AObj.hole, AObj.hole]) H.length 3 (0 + 2) 1 = some [vS x11a x11n x11c]) (h5 : placeA (List.length (H ++ [vo [vI x0a, vS x0ba x0bn x0bc, vS x0ca x0cn x0cc] 25] ++ [vo [vI 0, vS none 0 0, vS none 0 0] 25]) + 0) (H ++ [vo [vI x0a, vS x0ba x0bn x0bc, vS x0ca x0cn x0cc] 25] ++ [vo [vI 0, vS none 0 0, vS none 0 0] 25] ++ [AObj.hole, AObj.hole]) (amakeSlice cfg.P 23 (vI (↑x11n : Int)) (vI (↑x11n : Int)) (H ++ [vo [vI x0a, vS x0ba x0bn x0bc, vS x0ca x0cn x0cc] 25] ++ [vo [vI 0, vS none 0 0, vS none 0 0] 25] ++ [AObj.hole, AObj.hole])) = some (vS x13a x13n x13c, H1)) (h6 : H1[List.length (H ++ [vo [vI x0a, vS x0ba x0bn x0bc, vS x0ca x0cn x0cc] 25] ++ [vo [vI 0, vS none 0 0, vS none 0 0] 25]) + 1]? = some AObj.hole) (h7 : 3 = 3) (h8 : setCells (List.set H1 (List.length (H ++ [vo [vI x0a, vS x0ba x0bn x0bc, vS x0ca x0cn x0cc] 25] ++ [vo [vI 0, vS none 0 0, vS none 0 0] 25]) + 1) (vo [vI 0, vS none 0 0, vS none 0 0] 25)) H.length (List.length (H ++ [vo [vI x0a, vS x0ba x0bn x0bc, vS x0ca x0cn x0cc] 25] ++ [vo [vI 0, vS none 0 0, vS none 0 0] 25]) + 1) 3 0 [vI x7, vS x9a x9n x9c, vS x13a x13n x13c] = some H2) (h9 : getCells H2 H.length 3 (0 + 2) 1 = some [vS x16a x16n x16c]) (h10 : lI a40 0 prot H ([Value.pointer (some ⟨List.length (H ++ [vo [vI x0a, vS x0ba x0bn x0bc, vS x0ca x0cn x0cc] 25]), 0, some 3⟩), Value.pointer (some ⟨List.length (H ++ [vo [vI x0a, vS x0ba x0bn x0bc, vS x0ca x0cn x0cc] 25] ++ [vo [vI 0, vS none 0 0, vS none 0 0] 25]) + 1, 0, some 3⟩), vS x16a x16n x16c, vI (↑x16n : Int), vI 0], H2) = some (Ex.exit 0, [vP z2p z2o z2l, vP z3p z3o z3l], H3)) (h11 : getCells H3 z3p z3l z3o 3 = some [vI x30a, vS x30ba x30bn x30bc, vS x30ca x30cn x30cc]) (h12 : 3 = 3) (h13 : setCells H3 H.length z2p z2l z2o [vI x30a, vS x30ba x30bn x30bc, vS x30ca x30cn x30cc] = some H4) (h14 : getCells H4 z2p z2l z2o 3 = some [vI wa, vS wba wbn wbc, vS wca wcn wcc]) (h15 : pfin a40 H [Value.agg #[vI wa, vS wba wbn wbc, vS wca wcn wcc]] H4 = (rv, rH)) : callInf cfg 40 [.agg #[.int .i64 x0a, .slice x0ba x0bn x0bc, .slice x0ca x0cn x0cc]] prot H = some (rv, rH) :=
 fn_of2 a40 [.e, .e, .v (vI x7), .v (vS x9a x9n x9c), .v (vS x11a x11n x11c), .e, .r (vS x13a x13n x13c) H1, .e, .e, .h H2, .v (vS x16a x16n x16c), .e, .lo (.exit 0, [vP z2p z2o z2l, vP z3p z3o z3l], H3), .v (.agg #[vI x30a, vS x30ba x30bn x30bc, vS x30ca x30cn x30cc]), .h H4, .v (.agg #[vI wa, vS wba wbn wbc, vS wca wcn wcc])] (ai h1 (ai h2 (ai h3 (ai h4 (ai h5 (ai h6 (ai h7 (ai h8 (ai h9 (ai h10 (ai h11 (ai h12 (ai h13 (ai h14 h15)))))))))))))) (by kernel_rfl) rfl
theorem f40_L0_0 (h1 : x18 < x17) (h2 : aX 23 (vS x16a x16n x16c) (vI x18) = some (vP x21p x21o x21l)) (h3 : getCells H x21p x21l x21o 1 = some [Value.bool x22]) (h4 : getCells H x3p x3l (x3o + 2) 1 = some [vS x24a x24n x24c]) (h5 : aX 23 (vS x24a x24n x24c) (vI x18) = some (vP x28p x28o x28l)) (h6 : 1 = 1) (h7 : setCells H H0.length x28p x28l x28o [Value.bool !x22] = some H2) (h8 : Fit .i64 (x18 + 1)) : lpOf cfg a40 0 prot H0 ([.pointer (some ⟨x2p, x2o, some x2l⟩), .pointer (some ⟨x3p, x3o, some x3l⟩), .slice x16a x16n x16c, .int .i64 x17, .int .i64 x18], H) = some (Sum.inl ([Value.pointer (some ⟨x2p, x2o, some x2l⟩), Value.pointer (some ⟨x3p, x3o, some x3l⟩), Value.slice x16a x16n x16c, Value.int .i64 x17, Value.int .i64 (x18 + 1)], H2)) :=
 lp_of2 [.e, .b true, .v (vP x21p x21o x21l), .v (.bool x22), .v (vS x24a x24n x24c), .e, .v (vP x28p x28o x28l), .h H2, .e] (ai (decide_eq_true h1) (ai h2 (ai h3 (ai h4 (ai h5 (ai h6 (ai h7 (ai h8 (Eq.refl (Sum.inl ([vP x2p x2o x2l, vP x3p x3o x3l, vS x16a x16n x16c, vI x17, vI (x18 + 1)], H2) : LS ⊕ LO)))))))))) (by kernel_rfl)
theorem f40_L0_1 (h1 : ¬(x18 < x17)) : lpOf cfg a40 0 prot H0 ([.pointer (some ⟨x2p, x2o, some x2l⟩), .pointer (some ⟨x3p, x3o, some x3l⟩), .slice x16a x16n x16c, .int .i64 x17, .int .i64 x18], H) = some (Sum.inr (Ex.exit 0, [Value.pointer (some ⟨x2p, x2o, some x2l⟩), Value.pointer (some ⟨x3p, x3o, some x3l⟩)], H)) :=
 lp_of2 [.e, .b false] (ai (decide_eq_false h1) (Eq.refl (Sum.inr (Ex.exit 0, [vP x2p x2o x2l, vP x3p x3o x3l], H) : LS ⊕ LO))) (by kernel_rfl)
end
end Go.Proofs.Ythjkodbinkiifaa.Am23
set_option linter.unusedVariables false
open Go Go.Proofs.Ythjkodbinkiifaa.Am
namespace Go.Proofs.Ythjkodbinkiifaa.Am23
section
variable {x0a x8a x9 x15a x16a : Int}
variable {x0ba x0ca x8ba x8ca x15ba x15ca x16ba x16ca : Option Addr}
variable {x0bn x0bc x0cn x0cc prot x8bn x8bc x8cn x8cc x15bn x15bc x15cn x15cc x16bn x16bc x16cn x16cc : Nat}
variable {H H1 H2 H3 : AHeap}
variable {wa wb wc x17ba x17bb x17bc x21a x21b x21c : ByteArray}
variable {x17a : Bool}
theorem f18_F_0 (h1 : [vI x0a, vS x0ba x0bn x0bc, vS x0ca x0cn x0cc].all isCell = true) (h2 : getCells (H ++ [vo [vI x0a, vS x0ba x0bn x0bc, vS x0ca x0cn x0cc] 25] ++ [vo [vE, vE, vE] 29]) H.length 3 0 3 = some [vI x8a, vS x8ba x8bn x8bc, vS x8ca x8cn x8cc]) (h3 : cI 36 [Value.agg #[vI x8a, vS x8ba x8bn x8bc, vS x8ca x8cn x8cc]] H.length (H ++ [vo [vI x0a, vS x0ba x0bn x0bc, vS x0ca x0cn x0cc] 25] ++ [vo [vE, vE, vE] 29]) = some (vI x9, H ++ [vo [vI x0a, vS x0ba x0bn x0bc, vS x0ca x0cn x0cc] 25] ++ [vo [vE, vE, vE] 29])) (h4 : (x9 != 0) = true) (h5 : 3 = 3) (h6 : setCells (H ++ [vo [vI x0a, vS x0ba x0bn x0bc, vS x0ca x0cn x0cc] 25] ++ [vo [vE, vE, vE] 29]) H.length (List.length (H ++ [vo [vI x0a, vS x0ba x0bn x0bc, vS x0ca x0cn x0cc] 25])) 3 0 [vE, vE, vE] = some H1) (h7 : getCells H1 (List.length (H ++ [vo [vI x0a, vS x0ba x0bn x0bc, vS x0ca x0cn x0cc] 25])) 3 0 3 = some [Value.string wa, Value.string wb, Value.string wc]) : callInf cfg 18 [.agg #[.int .i64 x0a, .slice x0ba x0bn x0bc, .slice x0ca x0cn x0cc]] prot H = some (Value.tuple { toList := [Value.bool false, Value.agg { toList := [Value.string wa, Value.string wb, Value.string wc] }, Value.int .i64 x9] }, H) :=
 fn_of2 a18 [.e, .e, .v (.agg #[vI x8a, vS x8ba x8bn x8bc, vS x8ca x8cn x8cc]), .v (vI x9), .e, .b true, .e, .h H1, .v (.agg #[.string wa, .string wb, .string wc])] (ai h1 (ai h2 (ai h3 (ai h4 (ai h5 (ai h6 (ai h7 (Eq.refl ((Value.tuple #[Value.bool false, Value.agg #[Value.string wa, Value.string wb, Value.string wc], vI x9], H) : Value × AHeap))))))))) (by kernel_rfl) rfl
theorem f18_F_1 (h1 : [vI x0a, vS x0ba x0bn x0bc, vS x0ca x0cn x0cc].all isCell = true) (h2 : getCells (H ++ [vo [vI x0a, vS x0ba x0bn x0bc, vS x0ca x0cn x0cc] 25] ++ [vo [vE, vE, vE] 29]) H.length 3 0 3 = some [vI x8a, vS x8ba x8bn x8bc, vS x8ca x8cn x8cc]) (h3 : cI 36 [Value.agg #[vI x8a, vS x8ba x8bn x8bc, vS x8ca x8cn x8cc]] H.length (H ++ [vo [vI x0a, vS x0ba x0bn x0bc, vS x0ca x0cn x0cc] 25] ++ [vo [vE, vE, vE] 29]) = some (vI x9, H ++ [vo [vI x0a, vS x0ba x0bn x0bc, vS x0ca x0cn x0cc] 25] ++ [vo [vE, vE, vE] 29])) (h4 : (x9 != 0) = false) (h5 : getCells (H ++ [vo [vI x0a, vS x0ba x0bn x0bc, vS x0ca x0cn x0cc] 25] ++ [vo [vE, vE, vE] 29]) H.length 3 0 3 = some [vI x15a, vS x15ba x15bn x15bc, vS x15ca x15cn x15cc]) (h6 : cI 40 [Value.agg #[vI x15a, vS x15ba x15bn x15bc, vS x15ca x15cn x15cc]] H.length (H ++ [vo [vI x0a, vS x0ba x0bn x0bc, vS x0ca x0cn x0cc] 25] ++ [vo [vE, vE, vE] 29]) = some (Value.agg #[vI x16a, vS x16ba x16bn x16bc, vS x16ca x16cn x16cc], H1)) (h7 : cI 37 [Value.agg #[vI x16a, vS x16ba x16bn x16bc, vS x16ca x16cn x16cc]] H.length H1 = some (Value.tuple #[Value.bool x17a, Value.agg #[Value.string x17ba, Value.string x17bb, Value.string x17bc]], H1)) (h8 : 3 = 3) (h9 : setCells (H1 ++ [vo [vE, vE, vE] 29]) H.length H1.length 3 0 [Value.string x17ba, Value.string x17bb, Value.string x17bc] = some H2) (h10 : getCells H2 H1.length 3 0 3 = some [Value.string x21a, Value.string x21b, Value.string x21c]) (h11 : 3 = 3) (h12 : setCells H2 H.length (List.length (H ++ [vo [vI x0a, vS x0ba x0bn x0bc, vS x0ca x0cn x0cc] 25])) 3 0 [Value.string x21a, Value.string x21b, Value.string x21c] = some H3) (h13 : getCells H3 (List.length (H ++ [vo [vI x0a, vS x0ba x0bn x0bc, vS x0ca x0cn x0cc] 25])) 3 0 3 = some [Value.string wa, Value.string wb, Value.string wc]) : callInf cfg 18 [.agg #[.int .i64 x0a, .slice x0ba x0bn x0bc, .slice x0ca x0cn x0cc]] prot H = some (Value.tuple { toList := [Value.bool x17a, Value.agg { toList := [Value.string wa, Value.string wb, Value.string wc] }, Value.int .i64 0] }, H) :=
 fn_of2 a18 [.e, .e, .v (.agg #[vI x8a, vS x8ba x8bn x8bc, vS x8ca x8cn x8cc]), .v (vI x9), .e, .b false, .v (.agg #[vI x15a, vS x15ba x15bn x15bc, vS x15ca x15cn x15cc]), .r (.agg #[vI x16a, vS x16ba x16bn x16bc, vS x16ca x16cn x16cc]) H1, .v (.tuple #[.bool x17a, .agg #[.string x17ba, .string x17bb, .string x17bc]]), .e, .h H2, .v (.agg #[.string x21a, .string x21b, .string x21c]), .h H3, .v (.agg #[.string wa, .string wb, .string wc])] (ai h1 (ai h2 (ai h3 (ai h4 (ai h5 (ai h6 (ai h7 (ai h8 (ai h9 (ai h10 (ai h11 (ai h12 (ai h13 (Eq.refl ((Value.tuple #[Value.bool x17a, Value.agg #[Value.string wa, Value.string wb, Value.string wc], vI 0], H) : Value × AHeap))))))))))))))) (by kernel_rfl) rfl
end
end Go.Proofs.Ythjkodbinkiifaa.Am23
namespace Go.Proofs.Ythjkodbinkiifaa.Am
open Go
theorem make_eq {P : Program} {t e s by_ : Nat} (T : ElemT P t e s by_) {H : AHeap} {n : Nat} {z : Value} (hz : tzero P e = some z) (hzp : (cellsOf z).all plain0 = true) (hzl : (cellsOf z).length = s) (hn : n * by_ ≤ 140737488355328) (hn2 : n ≤ 140737488355328) :
  amakeSlice P t (.int .i64 (n : Int)) (.int .i64 (n : Int)) H = some (sliceTo H (n * s) n, newObj H (repCells (cellsOf z) n) e) := by
 unfold amakeSlice
 simp only [T.sl, T.sz, T.bt, hz, Option.bind_some]
 have h1 : (by_ : Int) * (n : Int) ≤ 2 ^ 48 := by
  have : ((n * by_ : Nat) : Int) ≤ 140737488355328 := by omega
  rw [Int.mul_comm]
  push_cast at this
  omega
 rw [if_pos ⟨by omega, trivial, by omega, h1, hzp, hzl, T.s0⟩]
 simp
theorem place_make {H : AHeap} {e s n hid : Nat} {cs : List Value} (hl : cs.length = n * s) (hn : 0 < n) (hh : H[hid]? = some .hole) :
  ∃ H', placeA hid H (some (sliceTo H (n * s) n, newObj H cs e)) = some (.slice (some ⟨hid, 0, some (n * s)⟩) n n, H') ∧ Own H' e s (.slice (some ⟨hid, 0, some (n * s)⟩) n n) (some hid) n cs ∧ Stay (some hid) H H' ∧ H'.length = H.length := by
 have hl2 := (List.getElem?_eq_some_iff.1 hh).1
 refine ⟨H.set hid (.cells cs e cs.length .row), ?_, ⟨hl, hn, by rw [hl], cs.length, Nat.le_refl _, List.getElem?_set_self hl2⟩, ⟨by simp, fun q _ hq => List.getElem?_set_ne (fun e => hq (by rw [e]))⟩, by simp⟩
 unfold placeA
 simp only [Option.bind_some, newObj]
 rw [append_get.1, hh]
 simp only [sliceTo, renTop]
 simp
end Go.Proofs.Ythjkodbinkiifaa.Am
namespace Go.Proofs.Ythjkodbinkiifaa.Am23
open Go Go.Proofs.Ythjkodbinkiifaa.Am

theorem loop40 {k : Nat} {bs : List Bool} {vN vA x24 : Value} {p2 p3 o : Nat} {H0 : AHeap} {prot : Nat} (hn : bs.length ≤ 100000) (hlo : Low H0.length vA) (h3 : H0.length ≤ p3) (ho : H0.length ≤ o) (hne : o ≠ p3) : ∀ (d i : Nat) (D : List Bool) (H : AHeap), i + d = bs.length → D.length = bs.length →
  (∀ s, s < i → D.getD s false = !(bs.getD s false)) → Rd H 4 1 vA bs.length (bll bs) → H[p3]? = some (bx k vN x24) → Own H 4 1 x24 (some o) bs.length (bll D) →
  ∃ H', lpInf (lpOf cfg a40 0 prot H0) ([.pointer (some ⟨p2, 0, some 3⟩), .pointer (some ⟨p3, 0, some 3⟩), vA, .int .i64 bs.length, .int .i64 i], H) = some (.exit 0, [.pointer (some ⟨p2, 0, some 3⟩), .pointer (some ⟨p3, 0, some 3⟩)], H') ∧ Own H' 4 1 x24 (some o) bs.length (bll (bs.map (!·))) ∧ Stay (some o) H H' ∧ H'[p3]? = some (bx k vN x24)
 | 0, i, D, H, hi, hD, hs, hA, hp, w => by
  obtain ⟨aA, cA, rfl⟩ := hA.len
  have : D = bs.map (!·) := by
   refine ext_getD (by simp [hD]) (fun s hs' => ?_)
   rw [hs s (by omega), List.getD_eq_getElem?_getD, List.getD_eq_getElem?_getD, List.getElem?_map, List.getElem?_eq_getElem (show s < bs.length by omega)]
   rfl
  subst this
  exact ⟨H, lp_last (f40_L0_1 (by omega)), w, Stay.refl _ _, hp⟩
 | d + 1, i, D, H, hi, hD, hs, hA, hp, w => by
  obtain ⟨aA, cA, rfl⟩ := hA.len
  obtain ⟨a4, c4, rfl⟩ := w.len
  have hin : i < bs.length := by omega
  obtain ⟨idA, LA, n1, n2⟩ := rd_at T23 hA (bl_at hin)
  obtain ⟨_, _, g2, _⟩ := fld3 hp
  obtain ⟨_, H2, e, s1, s2, s3, s4, s5⟩ := own_setS T23 w (i := i) (j := 0) hin (vs := [.bool (!bs.getD i false)]) (by simp) rfl (prot := H0.length) (fun id hh => by cases hh; exact ho)
  cases e
  rw [put_bl _ (by omega)] at s3
  have hp2 : H2[p3]? = some (bx k vN (.slice a4 bs.length c4)) := by rw [s4.2 _ (List.getElem?_eq_some_iff.1 hp).1 (fun hh => hne (Option.some.inj hh))]; exact hp
  obtain ⟨H', u1, u2, u3, u4⟩ := loop40 (prot := prot) (p2 := p2) hn hlo h3 ho hne d (i + 1) _ H2 (by omega) (by simp [hD]) (fun s hs' => by
   rw [getD_setB (by omega)]
   by_cases he : s = i
   ·subst he; rw [if_pos rfl]
   ·rw [if_neg he]; exact hs s (by omega)) (hA.stayLow hlo s4 (fun id hh => by cases hh; exact ho)) hp2 s3
  exact ⟨H', lp_next (f40_L0_0 (by omega) n1 n2 g2 s1 rfl s2 (fit64 (by omega) (by omega))) u1, u2, s4.trans u3, u4⟩

theorem c40 {k : Nat} {xs : List Int} {bs : List Bool} {vN vA : Value} (hG : Good k xs bs) (prot : Nat) (H : AHeap) (hA : IsA H xs bs vN vA) :
  ∃ vA' H', callInf cfg 40 [av k vN vA] prot H = some (av k vN vA', H') ∧ IsA H' xs (bs.map (!·)) vN vA' ∧ Stay none H H' := by
 have hb1 := hG.n1
 have hb5 := hG.n5
 have lA := hA.a.low
 obtain ⟨B0, hB0⟩ : ∃ B0, B0 = AObj.cells [.int .i64 0, .slice none 0 0, .slice none 0 0] 25 3 .var := ⟨_, rfl⟩
 obtain ⟨HX, hHX⟩ : ∃ HX, HX = H ++ [bx k vN vA] ++ [B0] ++ [.hole, .hole] := ⟨_, rfl⟩
 have lX : HX.length = H.length + 4 := by rw [hHX]; simp
 have sX : Stay none H HX := by rw [hHX]; exact ((Stay.app none H _).trans (Stay.app none _ _)).trans (Stay.app none _ _)
 have hgX : HX[H.length]? = some (bx k vN vA) := by rw [hHX, List.append_assoc, List.append_assoc, List.getElem?_append_right (by omega)]; simp
 have hgX1 : HX[H.length + 1]? = some B0 := by rw [hHX, List.append_assoc, List.append_assoc, List.getElem?_append_right (by omega)]; simp
 have hgX2 : HX[H.length + 2]? = some .hole := by rw [hHX, List.append_assoc, List.append_assoc, List.getElem?_append_right (by omega)]; simp
 have hgX3 : HX[H.length + 3]? = some .hole := by rw [hHX, List.append_assoc, List.append_assoc, List.getElem?_append_right (by omega)]; simp
 have hm := make_eq T23 (H := HX) (n := bs.length) (z := .bool false) (by kernel_rfl) rfl rfl (by omega) (by omega)
 have hrep : (repCells (cellsOf (.bool false)) bs.length) = bll (List.replicate bs.length false) := by
  unfold bll
  rw [List.map_replicate]
  have := rep_map (fun _ : Nat => Value.bool false) 0 bs.length
  rw [List.map_replicate] at this
  exact this
 rw [hrep] at hm
 obtain ⟨H1, q1, q2, q3, q4⟩ := place_make (e := 4) (s := 1) (cs := bll (List.replicate bs.length false)) (by simp [bll]) hb1 hgX2
 rw [← hm] at q1
 have hg13 : H1[H.length + 3]? = some .hole := by rw [q3.2 _ (by omega) (fun h => by have := Option.some.inj h; omega)]; exact hgX3
 obtain ⟨H1', hH1'⟩ : ∃ H1', H1' = H1.set (H.length + 3) B0 := ⟨_, rfl⟩
 have s1' : Stay (some (H.length + 3)) H1 H1' := by rw [hH1']; exact ⟨by simp, fun q _ hq => List.getElem?_set_ne (fun e => hq (by rw [e]))⟩
 have l1' : H1'.length = H.length + 4 := by rw [hH1']; simp; omega
 have hg1' : H1'[H.length + 3]? = some B0 := by rw [hH1']; exact List.getElem?_set_self (by omega)
 rw [hB0] at hg1'
 obtain ⟨H2, u1, u2, u3, u4⟩ := set3s hg1' (show H.length ≤ H.length + 3 by omega) (x := .int .i64 k) (y := vN) (z := .slice (some ⟨H.length + 2, 0, some (bs.length * 1)⟩) bs.length bs.length) (by obtain ⟨_, _, rfl⟩ := hA.n.len; rfl)
 have st2 : Stay none H H2 := ((sX.over q3 (fun id h => by have := Option.some.inj h; omega)).over s1' (fun id h => by have := Option.some.inj h; omega)).over u3 (fun id h => by have := Option.some.inj h; omega)
 have l2 := u3.1
 obtain ⟨_, _, f2, _⟩ := fld3 u4
 have hA2 := hA.stay st2
 have w2 := (q2.stay s1' (fun id h1 h2 => by have := Option.some.inj h1; have := Option.some.inj h2; omega)).stay u3 (fun id h1 h2 => by have := Option.some.inj h1; have := Option.some.inj h2; omega)
 have hg21 : H2[H.length + 1]? = some B0 := by rw [u3.2 _ (by omega) (fun h => by have := Option.some.inj h; omega), s1'.2 _ (by omega) (fun h => by have := Option.some.inj h; omega), q3.2 _ (by omega) (fun h => by have := Option.some.inj h; omega)]; exact hgX1
 have hg20 : H2[H.length]? = some (bx k vN vA) := by rw [u3.2 _ (by omega) (fun h => by have := Option.some.inj h; omega), s1'.2 _ (by omega) (fun h => by have := Option.some.inj h; omega), q3.2 _ (by omega) (fun h => by have := Option.some.inj h; omega)]; exact hgX
 obtain ⟨H3, v1, v2, v3, v4⟩ := loop40 (k := k) (vN := vN) (prot := prot) (p2 := H.length + 1) (by omega) lA (show H.length ≤ H.length + 3 by omega) (show H.length ≤ H.length + 2 by omega) (by omega) bs.length 0 _ H2 (by omega) (by simp) (fun s hs => by omega) hA2.a u4 w2
 have hg31 : H3[H.length + 1]? = some B0 := by rw [v3.2 _ (by omega) (fun h => by have := Option.some.inj h; omega)]; exact hg21
 rw [hB0] at hg31
 obtain ⟨H4, y1, y2, y3, y4⟩ := set3s hg31 (show H.length ≤ H.length + 1 by omega) (x := .int .i64 k) (y := vN) (z := .slice (some ⟨H.length + 2, 0, some (bs.length * 1)⟩) bs.length bs.length) (by obtain ⟨_, _, rfl⟩ := hA.n.len; rfl)
 have st4 : Stay none H H4 := (st2.over v3 (fun id h => by have := Option.some.inj h; omega)).over y3 (fun id h => by have := Option.some.inj h; omega)
 have w4 := v2.stay y3 (fun id h1 h2 => by have := Option.some.inj h1; have := Option.some.inj h2; omega)
 refine ⟨_, H4, ?_, ⟨(hA.stay st4).n, by rw [List.length_map]; exact w4.rd⟩, st4⟩
 obtain ⟨_, _, _, f4⟩ := fld3 v4
 obtain ⟨aN, cN, rfl⟩ := hA.n.len
 obtain ⟨aA, cA, rfl⟩ := hA.a.len
 obtain ⟨g0, g1, g2, _⟩ := fld3 hgX
 obtain ⟨_, _, k2, _⟩ := fld3 hg20
 have e1 : (H ++ [bx k (.slice aN xs.length cN) (.slice aA bs.length cA)]).length = H.length + 1 := by simp
 have e2 : (H ++ [bx k (.slice aN xs.length cN) (.slice aA bs.length cA)] ++ [B0]).length = H.length + 2 := by simp
 have hp : plain0 (.slice (some ⟨H.length + 2, 0, some (bs.length * 1)⟩) bs.length bs.length) = false := rfl
 rw [show H.length + 3 = (H ++ [bx k (.slice aN xs.length cN) (.slice aA bs.length cA)] ++ [B0]).length + 1 by rw [e2]] at hg13 u1 v1 f4 hH1'
 rw [show H.length + 2 = (H ++ [bx k (.slice aN xs.length cN) (.slice aA bs.length cA)] ++ [B0]).length + 0 by rw [e2]] at q1 u1 f4 y1 y2 hp ⊢
 rw [← e1] at v1 y1 y2
 subst hHX; subst hH1'; subst hB0
 exact f40_F_0 _ _ all3 g0 g1 g2 q1 hg13 rfl u1 k2 v1 f4 rfl y1 y2 (pfin_agg rfl (plain_no2 hp))

theorem c18 {k : Int} {xs : List Int} {bs : List Bool} {vN vA : Value} (prot : Nat) (H : AHeap) (hA : IsA H xs bs vN vA) :
  callInf cfg 18 [av k vN vA] prot H = some (.tuple #[.bool (finV k xs (bs.map (!·))).1, pv (finV k xs (bs.map (!·))).2.1, .int .i64 (finV k xs (bs.map (!·))).2.2], H) := by
 have hcx : chkG k xs (bs.map (!·)) = chkG k xs bs := by unfold chkG good; simp only [List.length_map]
 obtain ⟨B0, hB0⟩ : ∃ B0, B0 = AObj.cells [.string ByteArray.empty, .string ByteArray.empty, .string ByteArray.empty] 29 3 .var := ⟨_, rfl⟩
 obtain ⟨HX, hHX⟩ : ∃ HX, HX = H ++ [bx k vN vA] ++ [B0] := ⟨_, rfl⟩
 have lX : HX.length = H.length + 2 := by rw [hHX]; simp
 have sX : Stay none H HX := by rw [hHX]; exact (Stay.app none H _).trans (Stay.app none _ _)
 have hgX : HX[H.length]? = some (bx k vN vA) := by rw [hHX, List.getElem?_append_left (by simp)]; exact append_get.1
 have hgX1 : HX[H.length + 1]? = some B0 := by rw [hHX, List.getElem?_append_right (by simp)]; simp
 have hAX := hA.stay sX
 have hck := c36 (k := k) H.length HX hAX
 have e1 : (H ++ [bx k vN vA]).length = H.length + 1 := by simp
 by_cases h0 : chkG k xs bs = 0
 ·obtain ⟨k', rfl, hG⟩ := good_of h0
  obtain ⟨vA', HZ, hc, hAZ, hZ⟩ := c40 hG H.length HX hAX
  have hb := c37 hG.not H.length HZ hAZ
  have hv : finV k' xs (bs.map (!·)) = ((boundV k' xs (bs.map (!·))).1, (boundV k' xs (bs.map (!·))).2, 0) := by unfold finV; rw [hcx, if_pos h0, Int.toNat_natCast]
  rw [hv]
  rw [h0] at hck
  obtain ⟨aN, cN, rfl⟩ := hA.n.len
  obtain ⟨aA, cA, rfl⟩ := hA.a.len
  obtain ⟨aA', cA', rfl⟩ := hAZ.a.len
  obtain ⟨_, _, _, gX⟩ := fld3 hgX
  have lZ := hZ.1
  have hgY : (HZ ++ [B0])[HZ.length]? = some B0 := append_get.1
  rw [hB0] at hgY
  obtain ⟨H1, u1, u2, u3, _⟩ := set3s hgY (show H.length ≤ HZ.length by omega) (x := .string (boundV k' xs (bs.map (!·))).2.1) (y := .string (boundV k' xs (bs.map (!·))).2.2.1) (z := .string (boundV k' xs (bs.map (!·))).2.2.2) rfl
  have hg1 : H1[H.length + 1]? = some B0 := by
   rw [u3.2 _ (by simp; omega) (fun h => by have := Option.some.inj h; omega), List.getElem?_append_left (by omega), hZ.2 _ (by omega) (by simp)]; exact hgX1
  rw [hB0] at hg1
  obtain ⟨H2, v1, v2, v3, _⟩ := set3s hg1 (show H.length ≤ H.length + 1 by omega) (x := .string (boundV k' xs (bs.map (!·))).2.1) (y := .string (boundV k' xs (bs.map (!·))).2.2.1) (z := .string (boundV k' xs (bs.map (!·))).2.2.2) rfl
  subst hHX; subst hB0
  rw [← e1] at v1 v2
  exact f18_F_1 all3 gX hck rfl gX hc hb rfl u1 u2 rfl v1 v2
 ·have hv : finV k xs (bs.map (!·)) = (false, (ByteArray.empty, ByteArray.empty, ByteArray.empty), chkG k xs bs) := by unfold finV; rw [hcx, if_neg h0]
  rw [hv]
  obtain ⟨aN, cN, rfl⟩ := hA.n.len
  obtain ⟨aA, cA, rfl⟩ := hA.a.len
  obtain ⟨_, _, _, gX⟩ := fld3 hgX
  rw [hB0] at hgX1
  obtain ⟨H2, v1, v2, v3, _⟩ := set3s hgX1 (show H.length ≤ H.length + 1 by omega) (x := .string ByteArray.empty) (y := .string ByteArray.empty) (z := .string ByteArray.empty) rfl
  subst hHX; subst hB0
  rw [← e1] at v1 v2
  exact f18_F_0 all3 gX hck (by simpa using h0) rfl v1 v2
end Go.Proofs.Ythjkodbinkiifaa.Am23
set_option linter.unusedVariables false
open Go Go.Proofs.Ythjkodbinkiifaa.Am
namespace Go.Proofs.Ythjkodbinkiifaa.Am23
end Go.Proofs.Ythjkodbinkiifaa.Am23
set_option linter.unusedVariables false
open Go Go.Proofs.Ythjkodbinkiifaa.Am
namespace Go.Proofs.Ythjkodbinkiifaa.Am23
end Go.Proofs.Ythjkodbinkiifaa.Am23
namespace Go.Proofs.Ythjkodbinkiifaa.Am23
open Go Go.Proofs.Ythjkodbinkiifaa.Am

end Go.Proofs.Ythjkodbinkiifaa.Am23
namespace Go.Proofs.Ythjkodbinkiifaa.Am
open Go
theorem u8_small {m : Nat} (h : m < 256) : IntKind.u8.wrap (m : Int) = (m : Int) := by
 simp only [IntKind.wrap]
 show (if (false && decide ((m : Int) % (256 : Int) ≥ (128 : Int))) = true then (m : Int) % (256 : Int) - 256 else (m : Int) % (256 : Int)) = _
 rw [if_neg (by simp)]
 omega
end Go.Proofs.Ythjkodbinkiifaa.Am
set_option linter.unusedVariables false
open Go Go.Proofs.Ythjkodbinkiifaa.Am
namespace Go.Proofs.Ythjkodbinkiifaa.Am23
end Go.Proofs.Ythjkodbinkiifaa.Am23
set_option linter.unusedVariables false
open Go Go.Proofs.Ythjkodbinkiifaa.Am
namespace Go.Proofs.Ythjkodbinkiifaa.Am23
end Go.Proofs.Ythjkodbinkiifaa.Am23
namespace Go.Proofs.Ythjkodbinkiifaa.Am23
open Go Go.Proofs.Ythjkodbinkiifaa.Am

def qs (q : List (Nat × List Nat)) : List Value := q.map fun p => .int .i64 (p.1 : Int)
def qw (q : List (Nat × List Nat)) : List Value := q.map fun p => .string (lw p.2)
structure L66 (k : Nat) (xs : List Int) (n : Nat) (H0 H : AHeap) (vN vA x9 x10 x11 x12 : Value) (o9 o10 o11 o12 : Nat) (b : Bf) : Prop where
 hb : H[H0.length]? = some (bx k vN vA)
 r : Rd H 3 1 vN xs.length (il xs)
 lo : Low H0.length vN
 h9 : Own H 9 1 x9 (some o9) n (sl b.ws)
 h10 : Own H 4 1 x10 (some o10) n (bll b.met)
 h11 : Own H 3 1 x11 (some o11) b.q.length (qs b.q)
 h12 : Own H 9 1 x12 (some o12) b.q.length (qw b.q)
 l9 : H0.length < o9
 l10 : H0.length < o10
 l11 : H0.length < o11
 l12 : H0.length < o12
 d1 : o9 ≠ o10
 d2 : o9 ≠ o11
 d3 : o9 ≠ o12
 d4 : o10 ≠ o11
 d5 : o10 ≠ o12
 d6 : o11 ≠ o12

end Go.Proofs.Ythjkodbinkiifaa.Am23
namespace Go.Proofs.Ythjkodbinkiifaa.Am
open Go

/-- A list of one's own that grows and shrinks at its end: nil, or the beginning of a row. -/
def Stk (H : AHeap) (e : Nat) (x : Value) (o : Option Nat) (n : Nat) (cs : List Value) : Prop :=
 cs.length = n ∧
 match o with
 | none => n = 0 ∧ x = .slice none 0 0
 | some id => ∃ all wr, x = .slice (some ⟨id, 0, some all.length⟩) n all.length ∧ n ≤ all.length ∧ wr ≤ all.length ∧ 0 < all.length ∧ H[id]? = some (.cells all e wr .row) ∧ cs = all.take n

theorem Stk.rd {H : AHeap} {e : Nat} {x : Value} {o : Option Nat} {n : Nat} {cs : List Value} (h : Stk H e x o n cs) : Rd H e 1 x n cs := by
 obtain ⟨h1, h2⟩ := h
 refine ⟨by rw [h1, Nat.mul_one], ?_⟩
 cases o with
 | none => exact .inl ⟨h2.1, .inl h2.2⟩
 | some id =>
  obtain ⟨all, wr, rfl, hn, hwr, _, hH, rfl⟩ := h2
  exact .inr ⟨id, all.length, wr, .row, all.length, all, rfl, hwr, Nat.le_refl _, by omega, hH, by rw [Nat.mul_one]⟩
theorem Stk.len {H : AHeap} {e : Nat} {x : Value} {o : Option Nat} {n : Nat} {cs : List Value} (h : Stk H e x o n cs) : ∃ a c, x = .slice a n c := h.rd.len
theorem Stk.stay {H H' : AHeap} {e : Nat} {x : Value} {o o' : Option Nat} {n : Nat} {cs : List Value} (h : Stk H e x o n cs) (k : Stay o' H H') (hne : ∀ id, o = some id → o' ≠ some id) : Stk H' e x o n cs := by
 obtain ⟨h1, h2⟩ := h
 refine ⟨h1, ?_⟩
 cases o with
 | none => exact h2
 | some id =>
  obtain ⟨all, wr, a, b, c, d, f, g⟩ := h2
  exact ⟨all, wr, a, b, c, d, by rw [k.2 id (List.getElem?_eq_some_iff.1 f).1 (hne id rfl)]; exact f, g⟩
theorem Stk.lt {H : AHeap} {e : Nat} {x : Value} {id n : Nat} {cs : List Value} (h : Stk H e x (some id) n cs) : id < H.length := by
 obtain ⟨_, all, wr, _, _, _, _, hH, _⟩ := h
 exact (List.getElem?_eq_some_iff.1 hH).1
theorem stk_nil {H : AHeap} {e : Nat} : Stk H e (.slice none 0 0) none 0 [] := ⟨rfl, rfl, rfl⟩
theorem Own.stk {H : AHeap} {e : Nat} {x : Value} {id n : Nat} {cs : List Value} (h : Own H e 1 x (some id) n cs) : Stk H e x (some id) n cs := by
 obtain ⟨hl, hn, rfl, wr, hwr, hH⟩ := h
 have e1 : cs.length = n := by omega
 exact ⟨e1, cs, wr, by rw [e1], by omega, hwr, by omega, hH, by rw [← e1, List.take_length]⟩

/-- One element more. -/
theorem stk_push {P : Program} {t e by_ : Nat} (T : ElemT P t e 1 by_) {H : AHeap} {x : Value} {o : Option Nat} {n : Nat} {cs : List Value} (h : Stk H e x o n cs) {v : Value} (hv : isCell v = true) {prot : Nat}
  (hp : ∀ id, o = some id → prot ≤ id) (hB : prot ≤ H.length) (hroom : (n + 1) * by_ ≤ 140737488355328) {L : Nat} (hL : L = 1) {el : Nat} (hel : el = 1) :
  ∃ a' c' o' H', aappend P prot true t t x (.slice (some ⟨H.length, 0, some L⟩) 1 1) (H ++ [.cells [v] e el .row]) = some (.slice a' (n + 1) c', H') ∧ Stk H' e (.slice a' (n + 1) c') (some o') (n + 1) (cs ++ [v]) ∧ Stay o H H' ∧ prot ≤ o' ∧ (o = none → H.length ≤ o') ∧ (∀ id, o = some id → o' = id) := by
 obtain ⟨h1, h2⟩ := h
 cases o with
 | none =>
  obtain ⟨rfl, rfl⟩ := h2
  have hcs : cs = [] := List.eq_nil_of_length_eq_zero h1
  subst hcs
  obtain ⟨a', c', o', H', q1, q2, q3, q4, q5, q6⟩ := own_app T (own_nil (H := H) (e := e) (s := 1)) (ecs := [v]) rfl (by simp [hv]) (prot := prot) (room := true) (fun id h => by cases h) hB hroom hL (el := el) hel
  exact ⟨a', c', o', H', q1, q2.stk, q3, q4, q5, q6⟩
 | some id =>
  obtain ⟨all, wr, rfl, hn, hwr, h0, hH, rfl⟩ := h2
  subst hL; subst hel
  obtain ⟨z, hz, hzl⟩ := T.ze
  have hlt := (List.getElem?_eq_some_iff.1 hH).1
  have hH' : (H ++ [AObj.cells [v] e 1 .row])[id]? = some (.cells all e wr .row) := by rw [List.getElem?_append_left hlt]; exact hH
  have hsrc : srcCells P 1 t (.slice (some ⟨H.length, 0, some 1⟩) 1 1) (H ++ [AObj.cells [v] e 1 .row]) = some (1, [v]) := by
   unfold srcCells
   rw [T.un]
   simp only [cellsAt]
   unfold getCells
   rw [append_get.1]
   rfl
  have hcond : t = t ∧ 0 < 1 ∧ 0 < by_ ∧ (cellsOf z).length = 1 := ⟨rfl, by omega, T.b0, hzl⟩
  have hcond2 : ([v] : List Value).length = 1 * 1 ∧ ([v] : List Value).all isCell = true := ⟨rfl, by simp [hv]⟩
  have hpi := hp id rfl
  have hl : (all.take n).length = n := h1
  by_cases hc : n + 1 ≤ all.length
  ·have hput : putList all (0 + n * 1) [v] = all.set n v := by
    unfold putList
    rw [Nat.mul_one, Nat.zero_add, List.set_eq_take_append_cons_drop, if_pos (by omega)]
    simp
   refine ⟨_, _, id, (H ++ [AObj.cells [v] e 1 .row]).set id (.cells (all.set n v) e all.length .row), ?_, ⟨by simp [hl], all.set n v, all.length, by rw [List.length_set], by rw [List.length_set]; omega, by rw [List.length_set]; exact Nat.le_refl _, by rw [List.length_set]; exact h0, List.getElem?_set_self (by simp; omega), ?_⟩, ?_, hpi, fun h => (by cases h), fun id' h => (by cases h; rfl)⟩
   ·unfold aappend
    rw [T.sl, Option.bind_some, T.sz, Option.bind_some, T.bt, Option.bind_some, hz, Option.bind_some, if_pos hcond, hsrc, Option.bind_some]
    dsimp only
    rw [if_pos hcond2]
    simp only [Nat.one_ne_zero, if_false]
    rw [if_pos hc]
    unfold setCells
    rw [hH']
    simp only [Bool.true_eq_false, if_false]
    rw [if_pos ⟨rfl, hpi, trivial, by simp; omega, by simp [hv]⟩, Option.map_some, hput]
   ·rw [List.take_add_one, List.getElem?_set_self (by omega), List.take_set_of_le (Nat.le_refl _)]
    rfl
   ·refine ⟨by simp, fun q hq hne => ?_⟩
    rw [List.getElem?_set_ne (fun e => hne (by rw [e])), List.getElem?_append_left hq]
  ·have hn2 : n = all.length := by omega
   subst hn2
   rw [List.take_length]
   have el : (all ++ [v]).length = (all.length + 1) * 1 := by simp
   refine ⟨some ⟨id, 0, some ((all.length + 1) * 1)⟩, all.length + 1, id, (H ++ [AObj.cells [v] e 1 .row]).set id (.cells (all ++ [v]) e wr .row), ?_, ⟨by simp, all ++ [v], wr, ?_, by simp, by simp; omega, by simp, List.getElem?_set_self (by simp; omega), ?_⟩, ?_, hpi, fun h => (by cases h), fun id' h => (by cases h; rfl)⟩
   ·unfold aappend
    rw [T.sl, Option.bind_some, T.sz, Option.bind_some, T.bt, Option.bind_some, hz, Option.bind_some, if_pos hcond, hsrc, Option.bind_some]
    dsimp only
    rw [if_pos hcond2]
    simp only [Nat.one_ne_zero, if_false]
    rw [if_neg hc, hH']
    simp only [OMode.isRow, true_and]
    rw [if_pos (by refine ⟨hpi, by omega, ?_⟩; simpa using hroom)]
   ·simp
   ·rw [List.take_of_length_le (by simp)]
   ·refine ⟨by simp, fun q hq hne => ?_⟩
    rw [List.getElem?_set_ne (fun e => hne (by rw [e])), List.getElem?_append_left hq]

/-- One element less. -/
theorem stk_pop {P : Program} {t e by_ : Nat} (T : ElemT P t e 1 by_) {H : AHeap} {x : Value} {o : Option Nat} {n : Nat} {cs : List Value} (h : Stk H e x o n cs) (hn : 0 < n) :
  ∃ a' c', aslice P t x none (some (.int .i64 ((n : Int) - 1))) none H = some (.slice a' (n - 1) c') ∧ Stk H e (.slice a' (n - 1) c') o (n - 1) cs.dropLast := by
 obtain ⟨h1, h2⟩ := h
 cases o with
 | none => omega
 | some id =>
  obtain ⟨all, wr, rfl, hna, hwr, h0, hH, rfl⟩ := h2
  refine ⟨some ⟨id, 0, some all.length⟩, all.length, ?_, by simp; omega, all, wr, rfl, by omega, hwr, h0, hH, ?_⟩
  ·unfold aslice
   simp only
   rw [T.un]
   have e1 : ((n : Int) - 1).toNat = n - 1 := by omega
   have e2 : (0 : Int) ≤ (n : Int) - 1 := by omega
   simp only [boundOf, Option.bind_some, e2, if_true, T.sz]
   rw [e1, if_pos ⟨Nat.zero_le _, by omega⟩]
   simp
  ·rw [List.dropLast_eq_take, List.take_take, List.length_take]
   congr 1
   omega
/-- The last element. -/
theorem rd_last {P : Program} {t e by_ : Nat} (T : ElemT P t e 1 by_) {H : AHeap} {x : Value} {n : Nat} {cs : List Value} (h : Rd H e 1 x (n + 1) cs) {v : Value} (hv : cs[n]? = some v) :
  ∃ id L, aindexAddr P t x (.int .i64 (((n + 1 : Nat) : Int) - 1)) = some (.pointer (some ⟨id, n, some L⟩)) ∧ getCells H id L n 1 = some [v] := by
 have : ((n + 1 : Nat) : Int) - 1 = (n : Int) := by omega
 rw [this]
 exact rd_at T h hv

/-- A list of letters as a text. -/
def lcs (w : List Nat) : List Value := w.map fun c => .int .u8 ((97 + c : Nat) : Int)
theorem bytes_lcs : ∀ w : List Nat, bytesOfCells (lcs w) = some (w.map fun c => UInt8.ofNat (97 + c))
 | [] => rfl
 | c :: w => by
  show (bytesOfCells (lcs w)).map _ = _
  rw [bytes_lcs w]
  rfl
theorem conv_word {P : Program} {tb ts te : TypeId} (u1 : P.underlying tb = some (.slice te)) (u2 : P.underlying ts = some .string) (u3 : P.underlying te = some (.int .u8)) {H : AHeap} {x : Value} {n : Nat} {w : List Nat} (h : Rd H te 1 x n (lcs w)) :
  aconv P tb ts x H = some (.string (lw w)) := by
 have key : aconv P tb ts x H = (cellsAt 1 x H).bind fun cs => (bytesOfCells cs).map fun l => .string ⟨l.toArray⟩ := by
  obtain ⟨a, c, rfl⟩ := h.len
  unfold aconv
  rw [u1, u2]
  simp only
  rw [u3]
 have hc : cellsAt 1 x H = some (lcs w) := by
  have hs := rd_src (P := P) (t := tb) (s := 1) u1 h
  unfold srcCells at hs
  rw [u1] at hs
  obtain ⟨a, c, rfl⟩ := h.len
  simp only [Option.map_eq_some_iff] at hs
  obtain ⟨cs, h1, h2⟩ := hs
  cases h2
  exact h1
 rw [key, hc, Option.bind_some, bytes_lcs]
 simp [lw, bstr]
end Go.Proofs.Ythjkodbinkiifaa.Am
namespace Go.Proofs.Ythjkodbinkiifaa.Am
open Go
theorem putList_one (L : List Value) {i : Nat} (hi : i < L.length) (v : Value) : putList L (0 + i * 1) [v] = L.set i v := by
 unfold putList
 rw [Nat.mul_one, Nat.zero_add, List.set_eq_take_append_cons_drop, if_pos hi]
 simp
/-- An array in a variable: a part is read, is written; all of it. -/
theorem arr_get {H : AHeap} {p e n : Nat} {L : List Value} {md : OMode} (h : H[p]? = some (.cells L e n md)) (hl : L.length = n) {i : Nat} {v : Value} (hv : L[i]? = some v) : getCells H p n (0 + i * 1) 1 = some [v] := by
 have hi := (List.getElem?_eq_some_iff.1 hv).1
 unfold getCells
 rw [h]
 simp only
 rw [if_pos ⟨Nat.le_refl _, by omega, by omega⟩, Nat.mul_one, Nat.zero_add, List.drop_eq_getElem_cons hi]
 rw [List.getElem?_eq_getElem hi] at hv
 simp [Option.some.inj hv]
theorem arr_set {H : AHeap} {p e n prot : Nat} {L : List Value} (h : H[p]? = some (.cells L e n .var)) (hl : L.length = n) (hp : prot ≤ p) {i : Nat} (hi : i < n) {v : Value} (hv : isCell v = true) :
  setCells H prot p n (0 + i * 1) [v] = some (H.set p (.cells (L.set i v) e n .var)) := by
 unfold setCells
 rw [h]
 simp only
 rw [if_pos ⟨rfl, hp, by omega, by simp; omega, by simp [hv]⟩, putList_one L (by omega)]
theorem arr_all {H : AHeap} {p e n : Nat} {L : List Value} {md : OMode} (h : H[p]? = some (.cells L e n md)) (hl : L.length = n) : getCells H p n 0 n = some L := by
 unfold getCells
 rw [h]
 simp only
 rw [if_pos ⟨Nat.le_refl _, by omega, by omega⟩, List.drop_zero, List.take_of_length_le (by omega)]
theorem arr_put {H : AHeap} {p e n prot : Nat} {L L' : List Value} (h : H[p]? = some (.cells L e n .var)) (hl : L.length = n) (hp : prot ≤ p) (hl' : L'.length = n) (hv : L'.all isCell = true) :
  setCells H prot p n 0 L' = some (H.set p (.cells L' e n .var)) := by
 unfold setCells
 rw [h]
 simp only
 rw [if_pos ⟨rfl, hp, by omega, by omega, hv⟩]
 unfold putList
 rw [List.take_zero, List.nil_append, Nat.zero_add, List.drop_of_length_le (by omega), List.append_nil]
theorem set_stay {H : AHeap} {p : Nat} {o : AObj} : Stay (some p) H (H.set p o) := ⟨by simp, fun q _ hq => List.getElem?_set_ne (fun e => hq (by rw [e]))⟩
/-- A variable of an array's type is made. -/
theorem alloc_arr {P : Program} {t n : Nat} {z : Value} (hz : tzero P t = some (.agg ((List.replicate n z).toArray))) (hp : plain0 z = true) (H : AHeap) :
  aalloc P t H = some (.pointer (some ⟨H.length, 0, some n⟩), H ++ [.cells (List.replicate n z) t n .var]) := by
 unfold aalloc
 rw [hz, Option.bind_some]
 have e : cellsOf (.agg ((List.replicate n z).toArray)) = List.replicate n z := by simp [cellsOf, Value.cells]
 rw [e]
 rw [if_pos (by rw [List.all_eq_true]; intro x hx; rw [List.mem_replicate] at hx; rw [hx.2]; exact hp)]
 simp [ptrTo, newVarObj]
end Go.Proofs.Ythjkodbinkiifaa.Am
set_option linter.unusedVariables false
namespace Go.Proofs.Ythjkodbinkiifaa.Am23g
open Go Go.Proofs.Ythjkodbinkiifaa.Am Am23
section
variable {x0a x10a x15a z0a z10a x16a : Option Addr}
variable {x0n x0c prot x10n x10c x14p x14o x14l x15n x15c z0n z0c z10n z10c x16n x16c x20p x20o x20l : Nat}
variable {H H1 H0 H2 : AHeap}
variable {z2 z0 z10 : Value}
variable {x11 x12 z11 z12 x17 x18 x21 : Int}
theorem f72_F_0 (h1 : (↑x0n : Int) > 512) : callInf cfg 72 [.slice x0a x0n x0c] prot H = some (Value.int .i64 6, H) :=
 fn_of2 a72 [.e, .e, .b true] (ai (decide_eq_true h1) (Eq.refl ((vI 6, H) : Value × AHeap))) (by kernel_rfl) rfl
theorem f72_F_1 (h1 : ¬((↑x0n : Int) > 512)) (h2 : lI a72 0 prot H ([vS x0a x0n x0c, vS x0a x0n x0c, vI (↑x0n : Int), vI 0], H) = some (Ex.exit 0, [z2], H1)) : callInf cfg 72 [.slice x0a x0n x0c] prot H = some (Value.int .i64 0, H) :=
 fn_of2 a72 [.e, .e, .b false, .e, .lo (.exit 0, [z2], H1)] (ai (decide_eq_false h1) (ai h2 (Eq.refl ((vI 0, H) : Value × AHeap)))) (by kernel_rfl) rfl
theorem f72_F_2 {z2 : Int} (h1 : ¬((↑x0n : Int) > 512)) (h2 : lI a72 0 prot H ([vS x0a x0n x0c, vS x0a x0n x0c, vI (↑x0n : Int), vI 0], H) = some (Ex.ret, [vI z2], H1)) : callInf cfg 72 [.slice x0a x0n x0c] prot H = some (Value.int .i64 z2, H) :=
 fn_of2 a72 [.e, .e, .b false, .e, .lo (.ret, [vI z2], H1)] (ai (decide_eq_false h1) (ai h2 (Eq.refl ((vI z2, H) : Value × AHeap)))) (by kernel_rfl) rfl
theorem f72_L0_0 (h1 : x12 < x11) (h2 : aX 86 (vS x10a x10n x10c) (vI x12) = some (vP x14p x14o x14l)) (h3 : getCells H x14p x14l x14o 1 = some [vS x15a x15n x15c]) (h4 : lI a72 1 prot H0 ([vS x0a x0n x0c, vS x10a x10n x10c, vI x11, vI x12, vS x15a x15n x15c, vI (↑x15n : Int), vI 0], H) = some (Ex.exit 2, [vS z0a z0n z0c, z2, vS z10a z10n z10c, vI z11, vI z12], H2)) (h5 : Fit .i64 (z12 + 1)) : lpOf cfg a72 0 prot H0 ([.slice x0a x0n x0c, .slice x10a x10n x10c, .int .i64 x11, .int .i64 x12], H) = some (Sum.inl ([Value.slice z0a z0n z0c, Value.slice z10a z10n z10c, Value.int .i64 z11, Value.int .i64 (z12 + 1)], H2)) :=
 lp_of2 [.e, .b true, .v (vP x14p x14o x14l), .v (vS x15a x15n x15c), .e, .lo (.exit 2, [vS z0a z0n z0c, z2, vS z10a z10n z10c, vI z11, vI z12], H2), .e] (ai (decide_eq_true h1) (ai h2 (ai h3 (ai h4 (ai h5 (Eq.refl (Sum.inl ([vS z0a z0n z0c, vS z10a z10n z10c, vI z11, vI (z12 + 1)], H2) : LS ⊕ LO))))))) (by kernel_rfl)
theorem f72_L0_1 {z2 : Int} {z11 : Value} {z12 : Value} (h1 : x12 < x11) (h2 : aX 86 (vS x10a x10n x10c) (vI x12) = some (vP x14p x14o x14l)) (h3 : getCells H x14p x14l x14o 1 = some [vS x15a x15n x15c]) (h4 : lI a72 1 prot H0 ([vS x0a x0n x0c, vS x10a x10n x10c, vI x11, vI x12, vS x15a x15n x15c, vI (↑x15n : Int), vI 0], H) = some (Ex.ret, [z0, vI z2, z10, z11, z12], H2)) : lpOf cfg a72 0 prot H0 ([.slice x0a x0n x0c, .slice x10a x10n x10c, .int .i64 x11, .int .i64 x12], H) = some (Sum.inr (Ex.ret, [Value.int .i64 z2], H2)) :=
 lp_of2 [.e, .b true, .v (vP x14p x14o x14l), .v (vS x15a x15n x15c), .e, .lo (.ret, [z0, vI z2, z10, z11, z12], H2)] (ai (decide_eq_true h1) (ai h2 (ai h3 (ai h4 (Eq.refl (Sum.inr (Ex.ret, [vI z2], H2) : LS ⊕ LO)))))) (by kernel_rfl)
theorem f72_L0_2 (h1 : ¬(x12 < x11)) : lpOf cfg a72 0 prot H0 ([.slice x0a x0n x0c, .slice x10a x10n x10c, .int .i64 x11, .int .i64 x12], H) = some (Sum.inr (Ex.exit 0, [Value.tuple { toList := [] }], H)) :=
 lp_of2 [.e, .b false] (ai (decide_eq_false h1) (Eq.refl (Sum.inr (Ex.exit 0, [Value.tuple #[]], H) : LS ⊕ LO))) (by kernel_rfl)
theorem f72_L1_0 (h1 : x18 < x17) (h2 : aX 22 (vS x16a x16n x16c) (vI x18) = some (vP x20p x20o x20l)) (h3 : getCells H x20p x20l x20o 1 = some [vI x21]) (h4 : x21 < 0) : lpOf cfg a72 1 prot H0 ([.slice x0a x0n x0c, .slice x10a x10n x10c, .int .i64 x11, .int .i64 x12, .slice x16a x16n x16c, .int .i64 x17, .int .i64 x18], H) = some (Sum.inr (Ex.ret, [Value.slice x0a x0n x0c, Value.int .i64 11, Value.slice x10a x10n x10c, Value.int .i64 x11, Value.int .i64 x12], H)) :=
 lp_of2 [.e, .b true, .v (vP x20p x20o x20l), .v (vI x21), .e, .b true, .b true, .b true, .b true, .b true, .b true] (ai (decide_eq_true h1) (ai h2 (ai h3 (ai (decide_eq_true h4) (ai (decide_eq_true h4) (ai (decide_eq_true h4) (ai (decide_eq_true h4) (ai (decide_eq_true h4) (ai (Eq.refl true) (Eq.refl (Sum.inr (Ex.ret, [vS x0a x0n x0c, vI 11, vS x10a x10n x10c, vI x11, vI x12], H) : LS ⊕ LO))))))))))) (by kernel_rfl)
theorem f72_L1_1 (h1 : x18 < x17) (h2 : aX 22 (vS x16a x16n x16c) (vI x18) = some (vP x20p x20o x20l)) (h3 : getCells H x20p x20l x20o 1 = some [vI x21]) (h4 : ¬(x21 < 0)) (h5 : x21 ≥ (↑x0n : Int)) : lpOf cfg a72 1 prot H0 ([.slice x0a x0n x0c, .slice x10a x10n x10c, .int .i64 x11, .int .i64 x12, .slice x16a x16n x16c, .int .i64 x17, .int .i64 x18], H) = some (Sum.inr (Ex.ret, [Value.slice x0a x0n x0c, Value.int .i64 11, Value.slice x10a x10n x10c, Value.int .i64 x11, Value.int .i64 x12], H)) :=
 lp_of2 [.e, .b true, .v (vP x20p x20o x20l), .v (vI x21), .e, .b false, .b false, .b false, .e, .b false, .e, .b false, .b true] (ai (decide_eq_true h1) (ai h2 (ai h3 (ai (decide_eq_false h4) (ai (decide_eq_false h4) (ai (decide_eq_false h4) (ai (decide_eq_false h4) (ai (decide_eq_false h4) (ai (decide_eq_true h5) (Eq.refl (Sum.inr (Ex.ret, [vS x0a x0n x0c, vI 11, vS x10a x10n x10c, vI x11, vI x12], H) : LS ⊕ LO))))))))))) (by kernel_rfl)
theorem f72_L1_2 (h1 : x18 < x17) (h2 : aX 22 (vS x16a x16n x16c) (vI x18) = some (vP x20p x20o x20l)) (h3 : getCells H x20p x20l x20o 1 = some [vI x21]) (h4 : ¬(x21 < 0)) (h5 : ¬(x21 ≥ (↑x0n : Int))) (h6 : Fit .i64 (x18 + 1)) : lpOf cfg a72 1 prot H0 ([.slice x0a x0n x0c, .slice x10a x10n x10c, .int .i64 x11, .int .i64 x12, .slice x16a x16n x16c, .int .i64 x17, .int .i64 x18], H) = some (Sum.inl ([Value.slice x0a x0n x0c, Value.slice x10a x10n x10c, Value.int .i64 x11, Value.int .i64 x12, Value.slice x16a x16n x16c, Value.int .i64 x17, Value.int .i64 (x18 + 1)], H)) :=
 lp_of2 [.e, .b true, .v (vP x20p x20o x20l), .v (vI x21), .e, .b false, .b false, .b false, .e, .b false, .e, .b false, .b false, .e] (ai (decide_eq_true h1) (ai h2 (ai h3 (ai (decide_eq_false h4) (ai (decide_eq_false h4) (ai (decide_eq_false h4) (ai (decide_eq_false h4) (ai (decide_eq_false h4) (ai (decide_eq_false h5) (ai h6 (Eq.refl (Sum.inl ([vS x0a x0n x0c, vS x10a x10n x10c, vI x11, vI x12, vS x16a x16n x16c, vI x17, vI (x18 + 1)], H) : LS ⊕ LO)))))))))))) (by kernel_rfl)
theorem f72_L1_3 (h1 : ¬(x18 < x17)) : lpOf cfg a72 1 prot H0 ([.slice x0a x0n x0c, .slice x10a x10n x10c, .int .i64 x11, .int .i64 x12, .slice x16a x16n x16c, .int .i64 x17, .int .i64 x18], H) = some (Sum.inr (Ex.exit 2, [Value.slice x0a x0n x0c, Value.tuple { toList := [] }, Value.slice x10a x10n x10c, Value.int .i64 x11, Value.int .i64 x12], H)) :=
 lp_of2 [.e, .b false] (ai (decide_eq_false h1) (Eq.refl (Sum.inr (Ex.exit 2, [vS x0a x0n x0c, Value.tuple #[], vS x10a x10n x10c, vI x11, vI x12], H) : LS ⊕ LO))) (by kernel_rfl)
end
end Go.Proofs.Ythjkodbinkiifaa.Am23g
set_option linter.unusedVariables false
namespace Go.Proofs.Ythjkodbinkiifaa.Am23g
open Go Go.Proofs.Ythjkodbinkiifaa.Am Am23
end Go.Proofs.Ythjkodbinkiifaa.Am23g
namespace Go.Proofs.Ythjkodbinkiifaa.Am23g
open Go Go.Proofs.Ythjkodbinkiifaa.Am Am23
theorem T22 : ElemT cfg.P 86 22 1 24 := ⟨by kernel_rfl, by kernel_rfl, by kernel_rfl, ⟨.slice none 0 0, by kernel_rfl, rfl⟩, by kernel_rfl, by omega, by omega⟩
theorem T34 : ElemT cfg.P 22 3 1 8 := ⟨by kernel_rfl, by kernel_rfl, by kernel_rfl, ⟨.int .i64 0, by kernel_rfl, rfl⟩, by kernel_rfl, by omega, by omega⟩
def il (l : List Int) : List Value := l.map (.int .i64)
theorem il_get {l : List Int} {i : Nat} (h : i < l.length) : (il l)[i]? = some (.int .i64 l[i]) := by simp [il, h]
theorem il_plain (l) : (il l).all plain0 = true := by simp [il, plain0]
/-- A graph that may be read. -/
def Gr (H : AHeap) (v : Value) (G : List (List Int)) : Prop := ∃ cs, Rd H 22 1 v G.length cs ∧ ∀ (i : Nat) (l : List Int), G[i]? = some l → ∃ r, cs[i]? = some r ∧ Rd H 3 1 r l.length (il l)
theorem Gr.stay {H H' : AHeap} {v : Value} {G : List (List Int)} (h : Gr H v G) (s : Stay none H H') : Gr H' v G := by
 obtain ⟨cs, h1, h2⟩ := h
 exact ⟨cs, h1.stay s, fun i l hl => by obtain ⟨r, a, b⟩ := h2 i l hl; exact ⟨r, a, b.stay s⟩⟩
theorem Gr.len {H : AHeap} {v : Value} {G : List (List Int)} (h : Gr H v G) : ∃ a c, v = .slice a G.length c := by
 obtain ⟨cs, h1, _⟩ := h
 exact h1.len
theorem Gr.row {H : AHeap} {v : Value} {G : List (List Int)} (h : Gr H v G) {i : Nat} (hi : i < G.length) :
  ∃ id L r, aindexAddr cfg.P 86 v (.int .i64 i) = some (.pointer (some ⟨id, i, some L⟩)) ∧ getCells H id L i 1 = some [r] ∧ Rd H 3 1 r G[i].length (il G[i]) := by
 obtain ⟨cs, h1, h2⟩ := h
 obtain ⟨r, a, b⟩ := h2 i G[i] (List.getElem?_eq_getElem hi)
 obtain ⟨id, L, p, q⟩ := rd_at T22 h1 a
 exact ⟨id, L, r, p, q, b⟩
/-- Lists are not too long. -/
def Short (G : List (List Int)) : Prop := ∀ l ∈ G, l.length ≤ 140737488355328
def bad (n : Nat) (l : List Int) : Bool := l.any fun x => decide (x < 0 ∨ (n : Int) ≤ x)
/-- What Check answers. -/
def chk (G : List (List Int)) : Int := if 512 < G.length then 6 else if G.any (bad G.length) then 11 else 0

theorem loop25i {G : List (List Int)} {x y r : Value} {m j : Int} {H0 H : AHeap} {prot : Nat} {l : List Int} (hl : l.length ≤ 140737488355328) (hx : ∃ a c, x = .slice a G.length c) (hy : ∃ a n c, y = .slice a n c) (hr : Rd H 3 1 r l.length (il l)) : ∀ (d i : Nat), i + d = l.length →
  lpInf (lpOf cfg a72 1 prot H0) ([x, y, .int .i64 m, .int .i64 j, r, .int .i64 l.length, .int .i64 i], H) =
   some (if bad G.length (l.drop i) then (.ret, [x, .int .i64 11, y, .int .i64 m, .int .i64 j], H) else (.exit 2, [x, .tuple #[], y, .int .i64 m, .int .i64 j], H))
 | 0, i, hi => by
  rw [List.drop_of_length_le (by omega)]
  obtain ⟨_, _, rfl⟩ := hx
  obtain ⟨_, _, _, rfl⟩ := hy
  obtain ⟨_, _, rfl⟩ := hr.len
  exact lp_last (f72_L1_3 (by omega))
 | d + 1, i, hi => by
  have hil : i < l.length := by omega
  obtain ⟨id, L, p, q⟩ := rd_at T34 hr (il_get hil)
  have ih := loop25i hl hx hy hr (m := m) (j := j) (H0 := H0) (prot := prot) d (i + 1) (by omega)
  rw [List.drop_eq_getElem_cons hil]
  unfold bad at ih ⊢
  rw [List.any_cons]
  obtain ⟨_, _, rfl⟩ := hx
  obtain ⟨_, _, _, rfl⟩ := hy
  obtain ⟨_, _, rfl⟩ := hr.len
  by_cases h1 : l[i] < 0
  ·rw [decide_eq_true (.inl h1), Bool.true_or, if_pos rfl]
   exact lp_last (f72_L1_0 (by omega) p q h1)
  ·by_cases h2 : (G.length : Int) ≤ l[i]
   ·rw [decide_eq_true (.inr h2), Bool.true_or, if_pos rfl]
    exact lp_last (f72_L1_1 (by omega) p q h1 (by omega))
   ·rw [decide_eq_false (by omega), Bool.false_or]
    exact lp_next (f72_L1_2 (by omega) p q h1 (by omega) (fit64 (by omega) (by omega))) ih
theorem loop25o {G : List (List Int)} (hs : Short G) (hn : G.length ≤ 512) {x : Value} {H0 H : AHeap} {prot : Nat} (hx : Gr H x G) : ∀ (d i : Nat), i + d = G.length →
  ∃ e vs, lpInf (lpOf cfg a72 0 prot H0) ([x, x, .int .i64 G.length, .int .i64 i], H) = some (e, vs, H) ∧ ((e = .exit 0 ∧ vs = [.tuple #[]] ∧ (G.drop i).any (bad G.length) = false) ∨ (e = .ret ∧ vs = [.int .i64 11] ∧ (G.drop i).any (bad G.length) = true))
 | 0, i, hi => by
  rw [List.drop_of_length_le (by omega)]
  obtain ⟨_, _, rfl⟩ := hx.len
  exact ⟨_, _, lp_last (f72_L0_2 (by omega)), .inl ⟨rfl, rfl, rfl⟩⟩
 | d + 1, i, hi => by
  have hil : i < G.length := by omega
  obtain ⟨id, L, r, p, q, hr⟩ := hx.row hil
  obtain ⟨e, vs, z1, z2⟩ := loop25o hs hn hx (H0 := H0) (prot := prot) d (i + 1) (by omega)
  have hlp := loop25i (G := G) (hs _ (List.getElem_mem hil)) hx.len (by obtain ⟨a, c, h⟩ := hx.len; exact ⟨a, _, c, h⟩) hr (m := (G.length : Int)) (j := (i : Int)) (H0 := H0) (prot := prot) (G[i]).length 0 (by omega)
  rw [List.drop_zero] at hlp
  rw [List.drop_eq_getElem_cons hil, List.any_cons]
  obtain ⟨_, _, rfl⟩ := hx.len
  obtain ⟨_, _, rfl⟩ := hr.len
  cases hb : bad G.length G[i] with
  | true =>
   rw [hb, if_pos rfl] at hlp
   exact ⟨_, _, lp_last (f72_L0_1 (by omega) p q hlp), .inr ⟨rfl, rfl, rfl⟩⟩
  | false =>
   rw [hb, if_neg (by simp)] at hlp
   exact ⟨e, vs, lp_next (f72_L0_0 (by omega) p q hlp (fit64 (by omega) (by omega))) z1, z2⟩
theorem c25 {G : List (List Int)} (hs : Short G) {x : Value} (prot : Nat) {H : AHeap} (hx : Gr H x G) : callInf cfg 72 [x] prot H = some (.int .i64 (chk G), H) := by
 obtain ⟨a, c, hxe⟩ := hx.len
 unfold chk
 by_cases h : 512 < G.length
 ·rw [if_pos h]
  subst hxe
  exact f72_F_0 (by omega)
 ·rw [if_neg h]
  obtain ⟨e, vs, z1, z2⟩ := loop25o hs (by omega) hx (H0 := H) (prot := prot) G.length 0 (by omega)
  rw [List.drop_zero] at z2
  subst hxe
  rcases z2 with ⟨rfl, rfl, h3⟩ | ⟨rfl, rfl, h3⟩
  ·rw [h3, if_neg (by simp)]
   exact f72_F_1 (by omega) z1
  ·rw [h3, if_pos rfl]
   exact f72_F_2 (by omega) z1
/-- A good graph: its edges lead to its vertices. -/
def Good (G : List (List Int)) : Prop := G.length ≤ 512 ∧ Short G ∧ ∀ (i : Nat) (l : List Int) (x : Int), G[i]? = some l → x ∈ l → 0 ≤ x ∧ x < G.length
theorem good_of {G : List (List Int)} (hs : Short G) (h : chk G = 0) : Good G := by
 unfold chk at h
 split at h
 ·cases h
 ·split at h
  ·cases h
  ·rename_i h1 h2
   refine ⟨by omega, hs, fun i l x hl hx => ?_⟩
   have h3 : G.any (bad G.length) = false := by simpa using h2
   rw [List.any_eq_false] at h3
   have h4 := h3 l (List.mem_of_getElem? hl)
   have h5 : bad G.length l = false := by simpa using h4
   unfold bad at h5
   rw [List.any_eq_false] at h5
   have h6 := h5 x hx
   simp at h6
   omega
end Go.Proofs.Ythjkodbinkiifaa.Am23g
namespace Go.Proofs.Ythjkodbinkiifaa.Am23g
/-! Ways in a graph; what is marked depth first. -/
def sc (G : List (List Int)) (v : Nat) : List Nat := (G.getD v []).map Int.toNat
/-- A way that is not empty. -/
inductive Rch (G : List (List Int)) : Nat → Nat → Prop
 | one {v u : Nat} : u ∈ sc G v → Rch G v u
 | step {v w u : Nat} : Rch G v w → u ∈ sc G w → Rch G v u
theorem Rch.trans {G : List (List Int)} {a b c : Nat} (h : Rch G a b) (k : Rch G b c) : Rch G a c := by
 induction k with
 | one e => exact .step h e
 | step _ e ih => exact .step ih e
def at_ (M : List Bool) (u : Nat) : Bool := M.getD u false
theorem at_set {M : List Bool} {u x : Nat} (hu : u < M.length) : at_ (M.set u true) x = (decide (x = u) || at_ M x) := by
 unfold at_
 by_cases h : x = u
 ·subst h; simp [List.getD_eq_getElem?_getD, hu]
 ·rw [List.getD_eq_getElem?_getD, List.getElem?_set_ne (fun e => h e.symm), ← List.getD_eq_getElem?_getD]; simp [h]
def unm (M : List Bool) : Nat := M.countP (!·)
theorem unm_set : ∀ (m : List Bool) (t : Nat), t < m.length → at_ m t = false → unm (m.set t true) + 1 = unm m
 | [], t, h, _ => by simp at h
 | b :: m, 0, _, hb => by
  have : b = false := by simpa [at_] using hb
  subst this
  simp [unm]
 | b :: m, t + 1, h, hb => by
  have ih := unm_set m t (by simpa using h) (by simpa [at_] using hb)
  unfold unm at ih ⊢
  rw [List.set_cons_succ, List.countP_cons, List.countP_cons]
  omega
theorem unm_mono : ∀ {a b : List Bool}, a.length = b.length → (∀ x, at_ a x = true → at_ b x = true) → unm b ≤ unm a
 | [], [], _, _ => Nat.le_refl _
 | x :: a, y :: b, hl, h => by
  have ih := unm_mono (a := a) (b := b) (by simpa using hl) (fun i hi => by have := h (i + 1) (by simpa [at_] using hi); simpa [at_] using this)
  have h0 := h 0
  unfold unm at ih ⊢
  rw [List.countP_cons, List.countP_cons]
  cases x <;> cases y <;> simp [at_] at h0 ⊢ <;> omega
 | [], _ :: _, hl, _ => by simp at hl
 | _ :: _, [], hl, _ => by simp at hl
/-- What a walk from a vertex has done, of which the first i neighbours are through. -/
structure Post (G : List (List Int)) (M : List Bool) (v i : Nat) (M' : List Bool) : Prop where
 len : M'.length = M.length
 mono : ∀ x, at_ M x = true → at_ M' x = true
 sound : ∀ x, at_ M' x = true → at_ M x = true ∨ Rch G v x
 nb : ∀ j u, j < i → (sc G v)[j]? = some u → at_ M' u = true
 closed : ∀ x, at_ M' x = true → at_ M x = false → ∀ w ∈ sc G x, at_ M' w = true
theorem Post.start (G : List (List Int)) (M : List Bool) (v : Nat) : Post G M v 0 M := ⟨rfl, fun _ h => h, fun _ h => .inl h, fun _ _ h => by omega, fun x h1 h2 => by rw [h1] at h2; cases h2⟩
theorem Post.skip {G : List (List Int)} {M M1 : List Bool} {v i u : Nat} (h : Post G M v i M1) (hu : (sc G v)[i]? = some u) (hm : at_ M1 u = true) : Post G M v (i + 1) M1 :=
 ⟨h.len, h.mono, h.sound, fun j w hj hw => by
  by_cases e : j = i
  ·subst e; rw [hu] at hw; cases hw; exact hm
  ·exact h.nb j w (by omega) hw, h.closed⟩
theorem Post.down {G : List (List Int)} {M M1 M2 : List Bool} {v i u : Nat} (h : Post G M v i M1) (hu : (sc G v)[i]? = some u) (hul : u < M1.length) (k : Post G (M1.set u true) u (sc G u).length M2) : Post G M v (i + 1) M2 := by
 have hset := fun x => at_set (M := M1) (u := u) (x := x) hul
 have hmem : u ∈ sc G v := List.mem_of_getElem? hu
 have hu2 : at_ M2 u = true := k.mono u (by rw [hset]; simp)
 have up : ∀ x, at_ M1 x = true → at_ M2 x = true := fun x hx => k.mono x (by rw [hset, hx, Bool.or_true])
 refine ⟨by rw [k.len, List.length_set]; exact h.len, fun x hx => up x (h.mono x hx), fun x hx => ?_, fun j w hj hw => ?_, fun x hx hn w hw => ?_⟩
 ·rcases k.sound x hx with h1 | h1
  ·rw [hset, Bool.or_eq_true, decide_eq_true_eq] at h1
   rcases h1 with rfl | h1
   ·exact .inr (.one hmem)
   ·exact h.sound x h1
  ·exact .inr ((Rch.one hmem).trans h1)
 ·by_cases e : j = i
  ·subst e; rw [hu] at hw; cases hw; exact hu2
  ·exact up w (h.nb j w (by omega) hw)
 ·by_cases h1 : at_ M1 x = true
  ·exact up w (h.closed x h1 hn w hw)
  ·by_cases e : x = u
   ·subst e
    obtain ⟨j, hj, rfl⟩ := List.getElem_of_mem hw
    exact k.nb j _ hj (List.getElem?_eq_getElem hj)
   ·exact k.closed x hx (by rw [hset]; simp [e, h1]) w hw
/-- From nothing: just what is reached. -/
theorem Post.all {G : List (List Int)} {n v : Nat} {M : List Bool} (h : Post G (List.replicate n false) v (sc G v).length M) (x : Nat) : at_ M x = true ↔ Rch G v x := by
 have hz : ∀ x, at_ (List.replicate n false) x = false := fun x => by
  unfold at_
  rw [List.getD_eq_getElem?_getD, List.getElem?_replicate]
  split <;> rfl
 constructor
 ·intro hx
  rcases h.sound x hx with h1 | h1
  ·rw [hz] at h1; cases h1
  ·exact h1
 ·intro hr
  induction hr with
  | one e =>
   obtain ⟨j, hj, rfl⟩ := List.getElem_of_mem e
   exact h.nb j _ hj (List.getElem?_eq_getElem hj)
  | step _ e ih => exact h.closed _ ih (hz _) _ e
end Go.Proofs.Ythjkodbinkiifaa.Am23g
set_option linter.unusedVariables false
namespace Go.Proofs.Ythjkodbinkiifaa.Am23g
open Go Go.Proofs.Ythjkodbinkiifaa.Am Am23
section
variable {x0a : Option Addr}
variable {x0n x0c prot x10ap x10ao x10al x10bp x10bo x10bl x10cp x10co x10cl x13p x13o x13l : Nat}
variable {x1 : Int}
variable {H H1 H2 H3 : AHeap}
variable {x7 : Array Value}
theorem f79_F_0 (h1 : [vS x0a x0n x0c].all isCell = true) (h2 : abuild cfg.P 121 [] = some (Value.agg x7)) (h3 : x7.toList.all isCell = true) (h4 : [Value.pointer (some ⟨List.length (H ++ [vo [vS x0a x0n x0c] 86]), 0, some x7.toList.length⟩)].length = 1) (h5 : setCells (H ++ [vo [vS x0a x0n x0c] 86] ++ [AObj.cells x7.toList 121 x7.toList.length OMode.var] ++ [vo [Value.pointer none] 118]) H.length (List.length (H ++ [vo [vS x0a x0n x0c] 86] ++ [AObj.cells x7.toList 121 x7.toList.length OMode.var])) 1 0 [Value.pointer (some ⟨List.length (H ++ [vo [vS x0a x0n x0c] 86]), 0, some x7.toList.length⟩)] = some H1) (h6 : [Value.func (Fn.func 80) #[] #[vP H.length 0 1, Value.pointer (some ⟨List.length (H ++ [vo [vS x0a x0n x0c] 86] ++ [AObj.cells x7.toList 121 x7.toList.length OMode.var]), 0, some 1⟩), vP H1.length 0 1]].length = 1) (h7 : setCells (H1 ++ [vo [Value.nilFunc] 80]) H.length H1.length 1 0 [Value.func (Fn.func 80) #[] #[vP H.length 0 1, Value.pointer (some ⟨List.length (H ++ [vo [vS x0a x0n x0c] 86] ++ [AObj.cells x7.toList 121 x7.toList.length OMode.var]), 0, some 1⟩), vP H1.length 0 1]] = some H2) (h8 : getCells H2 H1.length 1 0 1 = some [Value.func (Fn.func 80) #[] #[vP x10ap x10ao x10al, vP x10bp x10bo x10bl, vP x10cp x10co x10cl]]) (h9 : cI 80 [vI x1, vP x10ap x10ao x10al, vP x10bp x10bo x10bl, vP x10cp x10co x10cl] H.length H2 = some (Value.tuple #[], H3)) (h10 : getCells H3 (List.length (H ++ [vo [vS x0a x0n x0c] 86] ++ [AObj.cells x7.toList 121 x7.toList.length OMode.var])) 1 0 1 = some [vP x13p x13o x13l]) : callInf cfg 79 [.slice x0a x0n x0c, .int .i64 x1] prot H = some (Value.pointer (some ⟨x13p, x13o, some x13l⟩), H3) :=
 fn_of2 a79 [.e, .v (.agg x7), .e, .e, .h H1, .e, .h H2, .v (.func (.func 80) #[] #[vP x10ap x10ao x10al, vP x10bp x10bo x10bl, vP x10cp x10co x10cl]), .r (.tuple #[]) H3, .v (vP x13p x13o x13l)] (ai h1 (ai h2 (ai h3 (ai h4 (ai h5 (ai h6 (ai h7 (ai h8 (ai h9 (ai h10 (Eq.refl ((vP x13p x13o x13l, H3) : Value × AHeap)))))))))))) (by kernel_rfl) rfl
end
end Go.Proofs.Ythjkodbinkiifaa.Am23g
set_option linter.unusedVariables false
namespace Go.Proofs.Ythjkodbinkiifaa.Am23g
open Go Go.Proofs.Ythjkodbinkiifaa.Am Am23
section
variable {x0 x11 x12 x15 : Int}
variable {x1p x1o x1l x2p x2o x2l x3p x3o x3l prot x7n x7c x9p x9o x9l x10n x10c x14p x14o x14l x16p x16o x16l x22p x22o x22l x26ap x26ao x26al x26bp x26bo x26bl x26cp x26co x26cl : Nat}
variable {H H1 H0 H2 H3 : AHeap}
variable {x7a x10a : Option Addr}
variable {x20 : Bool}
theorem f80_F_0 (h1 : getCells H x1p x1l x1o 1 = some [vS x7a x7n x7c]) (h2 : aX 86 (vS x7a x7n x7c) (vI x0) = some (vP x9p x9o x9l)) (h3 : getCells H x9p x9l x9o 1 = some [vS x10a x10n x10c]) (h4 : lI a80 0 prot H ([vP x2p x2o x2l, vP x3p x3o x3l, vS x10a x10n x10c, vI (↑x10n : Int), vI 0], H) = some (Ex.exit 0, [], H1)) : callInf cfg 80 [.int .i64 x0, .pointer (some ⟨x1p, x1o, some x1l⟩), .pointer (some ⟨x2p, x2o, some x2l⟩), .pointer (some ⟨x3p, x3o, some x3l⟩)] prot H = some (Value.tuple { toList := [] }, H1) :=
 fn_of2 a80 [.v (vS x7a x7n x7c), .v (vP x9p x9o x9l), .v (vS x10a x10n x10c), .e, .lo (.exit 0, [], H1)] (ai h1 (ai h2 (ai h3 (ai h4 (Eq.refl ((Value.tuple #[], H1) : Value × AHeap)))))) (by kernel_rfl) rfl
theorem f80_L0_0 (h1 : x12 < x11) (h2 : aX 22 (vS x10a x10n x10c) (vI x12) = some (vP x14p x14o x14l)) (h3 : getCells H x14p x14l x14o 1 = some [vI x15]) (h4 : getCells H x2p x2l x2o 1 = some [vP x16p x16o x16l]) (h5 : 0 ≤ x15) (h6 : x15 < (↑512 : Int)) (h7 : getCells H x16p x16l (x16o + x15.toNat * 1) 1 = some [Value.bool x20]) (h8 : (!x20) = false) (h9 : Fit .i64 (x12 + 1)) : lpOf cfg a80 0 prot H0 ([.pointer (some ⟨x2p, x2o, some x2l⟩), .pointer (some ⟨x3p, x3o, some x3l⟩), .slice x10a x10n x10c, .int .i64 x11, .int .i64 x12], H) = some (Sum.inl ([Value.pointer (some ⟨x2p, x2o, some x2l⟩), Value.pointer (some ⟨x3p, x3o, some x3l⟩), Value.slice x10a x10n x10c, Value.int .i64 x11, Value.int .i64 (x12 + 1)], H)) :=
 lp_of2 [.e, .b true, .v (vP x14p x14o x14l), .v (vI x15), .v (vP x16p x16o x16l), .e, .v (.bool x20), .e, .b false, .e] (ai (decide_eq_true h1) (ai h2 (ai h3 (ai h4 (ai h5 (ai h6 (ai h7 (ai h8 (ai h9 (Eq.refl (Sum.inl ([vP x2p x2o x2l, vP x3p x3o x3l, vS x10a x10n x10c, vI x11, vI (x12 + 1)], H) : LS ⊕ LO))))))))))) (by kernel_rfl)
theorem f80_L0_1 (h1 : x12 < x11) (h2 : aX 22 (vS x10a x10n x10c) (vI x12) = some (vP x14p x14o x14l)) (h3 : getCells H x14p x14l x14o 1 = some [vI x15]) (h4 : getCells H x2p x2l x2o 1 = some [vP x16p x16o x16l]) (h5 : 0 ≤ x15) (h6 : x15 < (↑512 : Int)) (h7 : getCells H x16p x16l (x16o + x15.toNat * 1) 1 = some [Value.bool x20]) (h8 : (!x20) = true) (h9 : getCells H x2p x2l x2o 1 = some [vP x22p x22o x22l]) (h10 : 1 = 1) (h11 : setCells H prot x22p x22l (x22o + x15.toNat * 1) [Value.bool true] = some H2) (h12 : getCells H2 x3p x3l x3o 1 = some [Value.func (Fn.func 80) #[] #[vP x26ap x26ao x26al, vP x26bp x26bo x26bl, vP x26cp x26co x26cl]]) (h13 : cI 80 [vI x15, vP x26ap x26ao x26al, vP x26bp x26bo x26bl, vP x26cp x26co x26cl] prot H2 = some (Value.tuple #[], H3)) (h14 : Fit .i64 (x12 + 1)) : lpOf cfg a80 0 prot H0 ([.pointer (some ⟨x2p, x2o, some x2l⟩), .pointer (some ⟨x3p, x3o, some x3l⟩), .slice x10a x10n x10c, .int .i64 x11, .int .i64 x12], H) = some (Sum.inl ([Value.pointer (some ⟨x2p, x2o, some x2l⟩), Value.pointer (some ⟨x3p, x3o, some x3l⟩), Value.slice x10a x10n x10c, Value.int .i64 x11, Value.int .i64 (x12 + 1)], H3)) :=
 lp_of2 [.e, .b true, .v (vP x14p x14o x14l), .v (vI x15), .v (vP x16p x16o x16l), .e, .v (.bool x20), .e, .b true, .v (vP x22p x22o x22l), .e, .h H2, .v (.func (.func 80) #[] #[vP x26ap x26ao x26al, vP x26bp x26bo x26bl, vP x26cp x26co x26cl]), .r (.tuple #[]) H3, .e] (ai (decide_eq_true h1) (ai h2 (ai h3 (ai h4 (ai h5 (ai h6 (ai h7 (ai h8 (ai h9 (ai h5 (ai h6 (ai h10 (ai h11 (ai h12 (ai h13 (ai h14 (Eq.refl (Sum.inl ([vP x2p x2o x2l, vP x3p x3o x3l, vS x10a x10n x10c, vI x11, vI (x12 + 1)], H3) : LS ⊕ LO)))))))))))))))))) (by kernel_rfl)
theorem f80_L0_2 (h1 : ¬(x12 < x11)) : lpOf cfg a80 0 prot H0 ([.pointer (some ⟨x2p, x2o, some x2l⟩), .pointer (some ⟨x3p, x3o, some x3l⟩), .slice x10a x10n x10c, .int .i64 x11, .int .i64 x12], H) = some (Sum.inr (Ex.exit 0, [], H)) :=
 lp_of2 [.e, .b false] (ai (decide_eq_false h1) (Eq.refl (Sum.inr (Ex.exit 0, [], H) : LS ⊕ LO))) (by kernel_rfl)
end
end Go.Proofs.Ythjkodbinkiifaa.Am23g
namespace Go.Proofs.Ythjkodbinkiifaa.Am23g
open Go Go.Proofs.Ythjkodbinkiifaa.Am Am23
theorem bd77 : abuild cfg.P 121 [] = some (.agg ⟨List.replicate 512 (.bool false)⟩) := by kernel_rfl
def bll (l : List Bool) : List Value := l.map .bool
abbrev f47 (p1 p2 p3 : Nat) : Value := .func (.func 80) #[] #[.pointer (some ⟨p1, 0, some 1⟩), .pointer (some ⟨p2, 0, some 1⟩), .pointer (some ⟨p3, 0, some 1⟩)]
theorem sc_get {G : List (List Int)} (hG : Good G) {v : Nat} (hv : v < G.length) {i : Nat} (hi : i < G[v].length) : ∃ u : Nat, G[v][i] = (u : Int) ∧ u < G.length ∧ (sc G v)[i]? = some u := by
 have h := hG.2.2 v G[v] G[v][i] (List.getElem?_eq_getElem hv) (List.getElem_mem hi)
 refine ⟨G[v][i].toNat, by omega, by omega, ?_⟩
 unfold sc
 rw [List.getD_eq_getElem?_getD, List.getElem?_eq_getElem hv, Option.getD_some, List.getElem?_map, List.getElem?_eq_getElem hi]
 rfl
theorem sc_len {G : List (List Int)} {v : Nat} (hv : v < G.length) : (sc G v).length = G[v].length := by
 unfold sc
 rw [List.length_map, List.getD_eq_getElem?_getD, List.getElem?_eq_getElem hv]; rfl

structure W47 (G0 H : AHeap) (vG : Value) (p1 p2 p3 pm : Nat) (M : List Bool) : Prop where
 g1 : H[p1]? = some (.cells [vG] 86 1 .var)
 g2 : H[p2]? = some (.cells [.pointer (some ⟨pm, 0, some 512⟩)] 118 1 .var)
 g3 : H[p3]? = some (.cells [f47 p1 p2 p3] 80 1 .var)
 gm : H[pm]? = some (.cells (bll M) 121 512 .var)
 ml : M.length = 512
 st : Stay none G0 H
theorem one_get {H : AHeap} {p e : Nat} {v : Value} {md : OMode} (h : H[p]? = some (.cells [v] e 1 md)) : getCells H p 1 0 1 = some [v] := by
 unfold getCells
 rw [h]
 rfl
theorem at_get {M : List Bool} {u : Nat} (h : u < M.length) : (bll M)[u]? = some (.bool (at_ M u)) := by
 unfold bll at_
 rw [List.getElem?_map, List.getElem?_eq_getElem h, List.getD_eq_getElem?_getD, List.getElem?_eq_getElem h]; rfl

theorem loop47 {G : List (List Int)} (hG : Good G) {G0 : AHeap} {vG : Value} (hg : Gr G0 vG G) {p1 p2 p3 pm prot : Nat} (hpm : G0.length ≤ pm) (hd1 : p1 ≠ pm) (hd2 : p2 ≠ pm) (hd3 : p3 ≠ pm) (hp : prot ≤ pm) {v : Nat} (hv : v < G.length) {M : List Bool} (hM : M.length = 512)
  (ih : ∀ (M1 : List Bool) (u : Nat) (H : AHeap), unm M1 < unm M → u < G.length → W47 G0 H vG p1 p2 p3 pm M1 →
   ∃ M2 H', callInf cfg 80 [.int .i64 u, .pointer (some ⟨p1, 0, some 1⟩), .pointer (some ⟨p2, 0, some 1⟩), .pointer (some ⟨p3, 0, some 1⟩)] prot H = some (.tuple #[], H') ∧ W47 G0 H' vG p1 p2 p3 pm M2 ∧ Post G M1 u (sc G u).length M2 ∧ Stay (some pm) H H' ∧ H'.length = H.length)
  {H0 : AHeap} {r : Value} (hr : Rd G0 3 1 r G[v].length (il G[v])) : ∀ (d i : Nat) (M1 : List Bool) (H : AHeap), i + d = G[v].length → W47 G0 H vG p1 p2 p3 pm M1 → Post G M v i M1 →
  ∃ M2 H', lpInf (lpOf cfg a80 0 prot H0) ([.pointer (some ⟨p2, 0, some 1⟩), .pointer (some ⟨p3, 0, some 1⟩), r, .int .i64 G[v].length, .int .i64 i], H) = some (.exit 0, [], H') ∧ W47 G0 H' vG p1 p2 p3 pm M2 ∧ Post G M v (sc G v).length M2 ∧ Stay (some pm) H H' ∧ H'.length = H.length
 | 0, i, M1, H, hi, hw, hpo => by
  have he : i = (sc G v).length := by rw [sc_len hv]; omega
  subst he
  obtain ⟨_, _, hre⟩ := hr.len
  refine ⟨M1, H, ?_, hw, hpo, Stay.refl _ _, rfl⟩
  rw [hre]
  exact lp_last (f80_L0_2 (by omega))
 | d + 1, i, M1, H, hi, hw, hpo => by
  have hn := hG.1
  have hs := hG.2.1 _ (List.getElem_mem hv)
  have hil : i < G[v].length := by omega
  obtain ⟨u, e1, hu, hsc⟩ := sc_get hG hv hil
  have hrH := hr.stay hw.st
  obtain ⟨id, L, p, q⟩ := rd_at T34 hrH (il_get hil)
  rw [e1] at q
  have hu512 : u < M1.length := by rw [hw.ml]; omega
  have g2 := one_get hw.g2
  have gm := arr_get hw.gm (by simp [bll, hw.ml]) (at_get hu512)
  have fi : Fit .i64 ((i : Int) + 1) := fit64 (by omega) (by omega)
  obtain ⟨ar, cr, hre⟩ := hr.len
  by_cases hm : at_ M1 u = true
  ·rw [hm] at gm
   obtain ⟨M2, H', z1, z2, z3, z4, z5⟩ := loop47 hG hg hpm hd1 hd2 hd3 hp hv hM ih hr (H0 := H0) d (i + 1) M1 H (by omega) hw (hpo.skip hsc hm)
   refine ⟨M2, H', ?_, z2, z3, z4, z5⟩
   rw [hre] at p z1 ⊢
   exact lp_next (f80_L0_0 (by omega) p q g2 (by omega) (by omega) gm rfl fi) z1
  ·have hm : at_ M1 u = false := by simpa using hm
   rw [hm] at gm
   obtain ⟨H2, hH2⟩ : ∃ H2, H2 = H.set pm (.cells (bll (M1.set u true)) 121 512 .var) := ⟨_, rfl⟩
   have hset : setCells H prot pm 512 (0 + u * 1) [.bool true] = some H2 := by
    rw [hH2, show bll (M1.set u true) = (bll M1).set u (.bool true) by simp [bll, List.map_set]]
    exact arr_set hw.gm (by simp [bll, hw.ml]) hp (by omega) rfl
   have s2 : Stay (some pm) H H2 := by rw [hH2]; exact set_stay
   have hpml := (List.getElem?_eq_some_iff.1 hw.gm).1
   have hw2 : W47 G0 H2 vG p1 p2 p3 pm (M1.set u true) :=
    ⟨by rw [s2.2 _ (List.getElem?_eq_some_iff.1 hw.g1).1 (fun e => hd1 (Option.some.inj e).symm)]; exact hw.g1, by rw [s2.2 _ (List.getElem?_eq_some_iff.1 hw.g2).1 (fun e => hd2 (Option.some.inj e).symm)]; exact hw.g2,
     by rw [s2.2 _ (List.getElem?_eq_some_iff.1 hw.g3).1 (fun e => hd3 (Option.some.inj e).symm)]; exact hw.g3, by rw [hH2, List.getElem?_set_self hpml], by rw [List.length_set]; exact hw.ml, hw.st.over s2 (fun id e => by cases e; exact hpm)⟩
   have hlt : unm (M1.set u true) < unm M := by
    have h1 := unm_set M1 u hu512 hm
    have h2 := unm_mono hpo.len.symm hpo.mono
    omega
   obtain ⟨M2, H3, c1, c2, c3, c4, c5⟩ := ih (M1.set u true) u H2 hlt hu hw2
   obtain ⟨M3, H', z1, z2, z3, z4, z5⟩ := loop47 hG hg hpm hd1 hd2 hd3 hp hv hM ih hr (H0 := H0) d (i + 1) M2 H3 (by omega) c2 (hpo.down hsc hu512 c3)
   have l2 : H2.length = H.length := by rw [hH2]; simp
   refine ⟨M3, H', ?_, z2, z3, (s2.trans c4).trans z4, by omega⟩
   have g3 := one_get hw2.g3
   rw [hre] at p z1 ⊢
   exact lp_next (f80_L0_1 (by omega) p q g2 (by omega) (by omega) gm rfl g2 rfl hset g3 c1 fi) z1

theorem c47 {G : List (List Int)} (hG : Good G) {G0 : AHeap} {vG : Value} (hg : Gr G0 vG G) {p1 p2 p3 pm prot : Nat} (hpm : G0.length ≤ pm) (hd1 : p1 ≠ pm) (hd2 : p2 ≠ pm) (hd3 : p3 ≠ pm) (hp : prot ≤ pm) : ∀ (N : Nat) (M : List Bool) (v : Nat) (H : AHeap), unm M < N → v < G.length → W47 G0 H vG p1 p2 p3 pm M →
  ∃ M2 H', callInf cfg 80 [.int .i64 v, .pointer (some ⟨p1, 0, some 1⟩), .pointer (some ⟨p2, 0, some 1⟩), .pointer (some ⟨p3, 0, some 1⟩)] prot H = some (.tuple #[], H') ∧ W47 G0 H' vG p1 p2 p3 pm M2 ∧ Post G M v (sc G v).length M2 ∧ Stay (some pm) H H' ∧ H'.length = H.length
 | 0, M, v, H, hN, hv, hw => by omega
 | N + 1, M, v, H, hN, hv, hw => by
  have hgH := hg.stay hw.st
  obtain ⟨cs, r1, r2⟩ := hg
  obtain ⟨r, ra, rb⟩ := r2 v G[v] (List.getElem?_eq_getElem hv)
  obtain ⟨id, L, p, q⟩ := rd_at T22 (r1.stay hw.st) ra
  obtain ⟨M2, H', z1, z2, z3, z4, z5⟩ := loop47 hG ⟨cs, r1, r2⟩ hpm hd1 hd2 hd3 hp hv hw.ml (fun M1 u H1 h1 h2 h3 => c47 hG ⟨cs, r1, r2⟩ hpm hd1 hd2 hd3 hp N M1 u H1 (by omega) h2 h3) (H0 := H) rb G[v].length 0 M H (by omega) hw (Post.start G M v)
  refine ⟨M2, H', ?_, z2, z3, z4, z5⟩
  have g1 := one_get hw.g1
  obtain ⟨_, _, hre⟩ := rb.len
  obtain ⟨_, _, hge⟩ := hgH.len
  rw [hre] at q z1
  rw [hge] at g1 p
  exact f80_F_0 g1 p q z1

/-- What is reached by ways that are not empty, in an array of marks. -/
theorem c39 {G : List (List Int)} (hG : Good G) {vG : Value} (prot : Nat) {H : AHeap} (hg : Gr H vG G) {v : Nat} (hv : v < G.length) :
  ∃ pm M H', callInf cfg 79 [vG, .int .i64 v] prot H = some (.pointer (some ⟨pm, 0, some 512⟩), H') ∧ H'[pm]? = some (.cells (bll M) 121 512 .var) ∧ M.length = 512 ∧ (∀ x, at_ M x = true ↔ Rch G v x) ∧ Stay none H H' ∧ H.length ≤ pm := by
 obtain ⟨aG, cG, rfl⟩ := hg.len
 obtain ⟨HA, hHA⟩ : ∃ HA, HA = H ++ [vo [.slice aG G.length cG] 86] := ⟨_, rfl⟩
 obtain ⟨HB, hHB⟩ : ∃ HB, HB = HA ++ [AObj.cells (List.replicate 512 (Value.bool false)) 121 (List.replicate 512 (Value.bool false)).length .var] := ⟨_, rfl⟩
 obtain ⟨HC, hHC⟩ : ∃ HC, HC = HB ++ [vo [.pointer none] 118] := ⟨_, rfl⟩
 have lA : HA.length = H.length + 1 := by rw [hHA]; simp
 have lB : HB.length = H.length + 2 := by rw [hHB, List.length_append, List.length_singleton]; omega
 have lC : HC.length = H.length + 3 := by rw [hHC, List.length_append, List.length_singleton]; omega
 have sA : Stay none H HA := by rw [hHA]; exact Stay.app none H _
 have sB : Stay none HA HB := by rw [hHB]; exact Stay.app none HA _
 have sC : Stay none HB HC := by rw [hHC]; exact Stay.app none HB _
 have gA : HC[H.length]? = some (.cells [.slice aG G.length cG] 86 1 .var) := by
  rw [sC.2 _ (by omega) (by simp), sB.2 _ (by omega) (by simp), hHA]; exact append_get.1
 have gB : HC[HA.length]? = some (.cells (List.replicate 512 (Value.bool false)) 121 512 .var) := by
  rw [sC.2 _ (by omega) (by simp), hHB, append_get.1, List.length_replicate]
 have gC : HC[HB.length]? = some (.cells [.pointer none] 118 1 .var) := by rw [hHC]; exact append_get.1
 obtain ⟨H1, hH1⟩ : ∃ H1, H1 = HC.set HB.length (.cells [.pointer (some ⟨HA.length, 0, some 512⟩)] 118 1 .var) := ⟨_, rfl⟩
 have s1 : Stay (some HB.length) HC H1 := by rw [hH1]; exact set_stay
 have l1 : H1.length = H.length + 3 := by rw [hH1, List.length_set, lC]
 have e1 : setCells HC H.length HB.length 1 0 [.pointer (some ⟨HA.length, 0, some (List.replicate 512 (Value.bool false)).length⟩)] = some H1 := by
  rw [hH1, List.length_replicate]; exact arr_put gC rfl (by omega) rfl rfl
 obtain ⟨HD, hHD⟩ : ∃ HD, HD = H1 ++ [vo [.nilFunc] 80] := ⟨_, rfl⟩
 have sD : Stay none H1 HD := by rw [hHD]; exact Stay.app none H1 _
 have lD : HD.length = H.length + 4 := by rw [hHD, List.length_append, List.length_singleton]; omega
 have gD : HD[H1.length]? = some (.cells [.nilFunc] 80 1 .var) := by rw [hHD]; exact append_get.1
 obtain ⟨H2, hH2⟩ : ∃ H2, H2 = HD.set H1.length (.cells [f47 H.length HB.length H1.length] 80 1 .var) := ⟨_, rfl⟩
 have s2 : Stay (some H1.length) HD H2 := by rw [hH2]; exact set_stay
 have l2 : H2.length = H.length + 4 := by rw [hH2, List.length_set, lD]
 have e2 : setCells HD H.length H1.length 1 0 [f47 H.length HB.length H1.length] = some H2 := by
  rw [hH2]; exact arr_put gD rfl (by omega) rfl rfl
 have stAll : Stay none H H2 := ((((sA.trans sB).trans sC).over s1 (fun id e => by have := Option.some.inj e; omega)).trans sD).over s2 (fun id e => by have := Option.some.inj e; omega)
 have hcarry : ∀ q o, q < H.length + 3 → q ≠ HB.length → HC[q]? = some o → H2[q]? = some o := fun q o hq hne h => by
  rw [s2.2 q (by omega) (fun e => by have := Option.some.inj e; omega), sD.2 q (by omega) (by simp), s1.2 q (by omega) (fun e => hne (Option.some.inj e).symm)]; exact h
 obtain ⟨M0, hM0⟩ : ∃ M0, M0 = List.replicate 512 false := ⟨_, rfl⟩
 have hw : W47 H H2 (.slice aG G.length cG) H.length HB.length H1.length HA.length M0 := by
  refine ⟨hcarry _ _ (by omega) (by omega) gA, ?_, ?_, ?_, by rw [hM0]; exact List.length_replicate, stAll⟩
  ·rw [s2.2 _ (by omega) (fun e => by have := Option.some.inj e; omega), sD.2 _ (by omega) (by simp), hH1, List.getElem?_set_self (by omega)]
  ·rw [hH2, List.getElem?_set_self (by omega)]
  ·have := hcarry _ _ (by omega) (by omega) gB
   rw [this, hM0]
   unfold bll
   rw [List.map_replicate]
 obtain ⟨M, H', z1, z2, z3, z4, z5⟩ := c47 hG hg (prot := H.length) (show H.length ≤ HA.length by omega) (by omega) (by omega) (by omega) (by omega) (unm M0 + 1) M0 v H2 (Nat.lt_succ_self _) hv hw
 rw [hM0] at z3
 refine ⟨HA.length, M, H', ?_, z2.gm, z2.ml, z3.all, z2.st, by omega⟩
 have g8 := one_get hw.g3
 have g10 := one_get z2.g2
 subst hHD; subst hHC; subst hHB; subst hHA
 exact f79_F_0 (x7 := ⟨List.replicate 512 (.bool false)⟩) rfl bd77 (by rw [List.all_eq_true]; intro x hx; rw [List.mem_replicate] at hx; rw [hx.2]; rfl) rfl e1 rfl (by rw [List.length_replicate] at *; exact e2) g8 z1 g10
end Go.Proofs.Ythjkodbinkiifaa.Am23g
set_option linter.unusedVariables false
namespace Go.Proofs.Ythjkodbinkiifaa.Am23g
open Go Go.Proofs.Ythjkodbinkiifaa.Am Am23
section
variable {x0a z3a x3a x15a : Option Addr}
variable {x0n x0c prot z3n z3c x3n x3c x13p x13o x13l x15n x15c : Nat}
variable {H H1 H0 H2 H3 : AHeap}
variable {x6 x7 : Int}
theorem f74_F_0 (rv : Value) (rH : AHeap) (h1 : lI a74 0 prot H ([vS x0a x0n x0c, vS none 0 0, vI (↑x0n : Int), vI 0], H) = some (Ex.exit 0, [vS z3a z3n z3c], H1)) (h2 : pfin a74 H [vS z3a z3n z3c] H1 = (rv, rH)) : callInf cfg 74 [.slice x0a x0n x0c] prot H = some (rv, rH) :=
 fn_of2 a74 [.e, .lo (.exit 0, [vS z3a z3n z3c], H1)] (ai h1 h2) (by kernel_rfl) rfl
theorem f74_L0_0 (h1 : x7 < x6) (h2 : cI 79 [vS x0a x0n x0c, vI x7] H0.length H = some (vP x13p x13o x13l, H2)) (h3 : aappend cfg.P H0.length true 109 109 (vS x3a x3n x3c) (vS (some ⟨H2.length, 0, some (1 * 1)⟩) 1 1) (H2 ++ [wo [vP x13p x13o x13l] 118]) = some (vS x15a x15n x15c, H3)) (h4 : Fit .i64 (x7 + 1)) : lpOf cfg a74 0 prot H0 ([.slice x0a x0n x0c, .slice x3a x3n x3c, .int .i64 x6, .int .i64 x7], H) = some (Sum.inl ([Value.slice x0a x0n x0c, Value.slice x15a x15n x15c, Value.int .i64 x6, Value.int .i64 (x7 + 1)], H3)) :=
 lp_of2 [.e, .b true, .r (vP x13p x13o x13l) H2, .e, .r (vS x15a x15n x15c) H3, .e] (ai (decide_eq_true h1) (ai h2 (ai h3 (ai h4 (Eq.refl (Sum.inl ([vS x0a x0n x0c, vS x15a x15n x15c, vI x6, vI (x7 + 1)], H3) : LS ⊕ LO)))))) (by kernel_rfl)
theorem f74_L0_1 (h1 : ¬(x7 < x6)) : lpOf cfg a74 0 prot H0 ([.slice x0a x0n x0c, .slice x3a x3n x3c, .int .i64 x6, .int .i64 x7], H) = some (Sum.inr (Ex.exit 0, [Value.slice x3a x3n x3c], H)) :=
 lp_of2 [.e, .b false] (ai (decide_eq_false h1) (Eq.refl (Sum.inr (Ex.exit 0, [vS x3a x3n x3c], H) : LS ⊕ LO))) (by kernel_rfl)
end
end Go.Proofs.Ythjkodbinkiifaa.Am23g
set_option linter.unusedVariables false
namespace Go.Proofs.Ythjkodbinkiifaa.Am23g
open Go Go.Proofs.Ythjkodbinkiifaa.Am Am23
section
variable {x0a x1a z6a x6a z1a : Option Addr}
variable {x0n x0c x1n x1c prot z6n z6c x6n x6c x20p x20o x20l z1n z1c x53p x53o x53l x59p x59o x59l x27p x27o x27l x28p x28o x28l x36p x36o x36l x37p x37o x37l x47p x47o x47l x49p x49o x49l : Nat}
variable {H H1 H0 H2 H3 H4 : AHeap}
variable {z7 x7 x14 x15 z8 z14 z15 x54 x8 x21 x22 x48 : Int}
variable {x32 x41 : Bool}
theorem f73_F_0 (rv : Value) (rH : AHeap) (h1 : 0 ≤ (↑x0n : Int)) (h2 : (↑x0n : Int) = (↑x0n : Int)) (h3 : (↑x0n : Int) ≤ 9223372036854775807) (h4 : (↑8 : Int) * (↑x0n : Int) ≤ 2 ^ 48) (h5 : lI a73 0 prot H ([vS x1a x1n x1c, vS (some ⟨H.length, 0, some ((↑x0n : Int).toNat * 1)⟩) (↑x0n : Int).toNat (↑x0n : Int).toNat, vI 0, vI (↑x0n : Int), vI 0], H ++ [AObj.cells (repCells [vI 0] (↑x0n : Int).toNat) 3 (repCells [vI 0] (↑x0n : Int).toNat).length OMode.row]) = some (Ex.exit 0, [vS z6a z6n z6c, vI z7], H1)) (h6 : pfin a73 H [vS z6a z6n z6c, vI z7] H1 = (rv, rH)) : callInf cfg 73 [.slice x0a x0n x0c, .slice x1a x1n x1c] prot H = some (rv, rH) :=
 fn_of2 a73 [.e, .e, .e, .lo (.exit 0, [vS z6a z6n z6c, vI z7], H1)] (ai h1 (ai h2 (ai h3 (ai h4 (ai h5 h6))))) (by kernel_rfl) rfl
theorem f73_L0_0 (h1 : x15 < x14) (h2 : aX 22 (vS x6a x6n x6c) (vI x15) = some (vP x20p x20o x20l)) (h3 : 1 = 1) (h4 : setCells H H0.length x20p x20l x20o [vI (-1)] = some H2) (h5 : lI a73 1 prot H0 ([vS x1a x1n x1c, vS x6a x6n x6c, vI x7, vI x15, vI x14, vI x15, vI x15, vI 0], H2) = some (Ex.exit 2, [vS z1a z1n z1c, vS z6a z6n z6c, vI z7, vI z8, vI z14, vI z15], H3)) (h6 : aX 22 (vS z6a z6n z6c) (vI z8) = some (vP x53p x53o x53l)) (h7 : getCells H3 x53p x53l x53o 1 = some [vI x54]) (h8 : x54 < 0) (h9 : aX 22 (vS z6a z6n z6c) (vI z8) = some (vP x59p x59o x59l)) (h10 : 1 = 1) (h11 : setCells H3 H0.length x59p x59l x59o [vI z7] = some H4) (h12 : Fit .i64 (z7 + 1)) (h13 : Fit .i64 (z15 + 1)) : lpOf cfg a73 0 prot H0 ([.slice x1a x1n x1c, .slice x6a x6n x6c, .int .i64 x7, .int .i64 x14, .int .i64 x15], H) = some (Sum.inl ([Value.slice z1a z1n z1c, Value.slice z6a z6n z6c, Value.int .i64 (z7 + 1), Value.int .i64 z14, Value.int .i64 (z15 + 1)], H4)) :=
 lp_of2 [.e, .b true, .v (vP x20p x20o x20l), .h H2, .lo (.exit 2, [vS z1a z1n z1c, vS z6a z6n z6c, vI z7, vI z8, vI z14, vI z15], H3), .v (vP x53p x53o x53l), .v (vI x54), .e, .b true, .v (vP x59p x59o x59l), .h H4, .e, .e] (ai (decide_eq_true h1) (ai h2 (ai h3 (ai h4 (ai h5 (ai h6 (ai h7 (ai (decide_eq_true h8) (ai h9 (ai h10 (ai h11 (ai h12 (ai h13 (Eq.refl (Sum.inl ([vS z1a z1n z1c, vS z6a z6n z6c, vI (z7 + 1), vI z14, vI (z15 + 1)], H4) : LS ⊕ LO))))))))))))))) (by kernel_rfl)
theorem f73_L0_1 (h1 : x15 < x14) (h2 : aX 22 (vS x6a x6n x6c) (vI x15) = some (vP x20p x20o x20l)) (h3 : 1 = 1) (h4 : setCells H H0.length x20p x20l x20o [vI (-1)] = some H2) (h5 : lI a73 1 prot H0 ([vS x1a x1n x1c, vS x6a x6n x6c, vI x7, vI x15, vI x14, vI x15, vI x15, vI 0], H2) = some (Ex.exit 2, [vS z1a z1n z1c, vS z6a z6n z6c, vI z7, vI z8, vI z14, vI z15], H3)) (h6 : aX 22 (vS z6a z6n z6c) (vI z8) = some (vP x53p x53o x53l)) (h7 : getCells H3 x53p x53l x53o 1 = some [vI x54]) (h8 : ¬(x54 < 0)) (h9 : Fit .i64 (z15 + 1)) : lpOf cfg a73 0 prot H0 ([.slice x1a x1n x1c, .slice x6a x6n x6c, .int .i64 x7, .int .i64 x14, .int .i64 x15], H) = some (Sum.inl ([Value.slice z1a z1n z1c, Value.slice z6a z6n z6c, Value.int .i64 z7, Value.int .i64 z14, Value.int .i64 (z15 + 1)], H3)) :=
 lp_of2 [.e, .b true, .v (vP x20p x20o x20l), .h H2, .lo (.exit 2, [vS z1a z1n z1c, vS z6a z6n z6c, vI z7, vI z8, vI z14, vI z15], H3), .v (vP x53p x53o x53l), .v (vI x54), .e, .b false, .e] (ai (decide_eq_true h1) (ai h2 (ai h3 (ai h4 (ai h5 (ai h6 (ai h7 (ai (decide_eq_false h8) (ai h9 (Eq.refl (Sum.inl ([vS z1a z1n z1c, vS z6a z6n z6c, vI z7, vI z14, vI (z15 + 1)], H3) : LS ⊕ LO))))))))))) (by kernel_rfl)
theorem f73_L0_2 (h1 : ¬(x15 < x14)) : lpOf cfg a73 0 prot H0 ([.slice x1a x1n x1c, .slice x6a x6n x6c, .int .i64 x7, .int .i64 x14, .int .i64 x15], H) = some (Sum.inr (Ex.exit 0, [Value.slice x6a x6n x6c, Value.int .i64 x7], H)) :=
 lp_of2 [.e, .b false] (ai (decide_eq_false h1) (Eq.refl (Sum.inr (Ex.exit 0, [vS x6a x6n x6c, vI x7], H) : LS ⊕ LO))) (by kernel_rfl)
theorem f73_L1_0 (h1 : x22 < x21) (h2 : aX 109 (vS x1a x1n x1c) (vI x8) = some (vP x27p x27o x27l)) (h3 : getCells H x27p x27l x27o 1 = some [vP x28p x28o x28l]) (h4 : 0 ≤ x22) (h5 : x22 < (↑512 : Int)) (h6 : getCells H x28p x28l (x28o + x22.toNat * 1) 1 = some [Value.bool x32]) (h7 : x32 = true) (h8 : aX 109 (vS x1a x1n x1c) (vI x22) = some (vP x36p x36o x36l)) (h9 : getCells H x36p x36l x36o 1 = some [vP x37p x37o x37l]) (h10 : 0 ≤ x8) (h11 : x8 < (↑512 : Int)) (h12 : getCells H x37p x37l (x37o + x8.toNat * 1) 1 = some [Value.bool x41]) (h13 : x41 = true) (h14 : aX 22 (vS x6a x6n x6c) (vI x22) = some (vP x47p x47o x47l)) (h15 : getCells H x47p x47l x47o 1 = some [vI x48]) (h16 : aX 22 (vS x6a x6n x6c) (vI x8) = some (vP x49p x49o x49l)) (h17 : 1 = 1) (h18 : setCells H H0.length x49p x49l x49o [vI x48] = some H2) : lpOf cfg a73 1 prot H0 ([.slice x1a x1n x1c, .slice x6a x6n x6c, .int .i64 x7, .int .i64 x8, .int .i64 x14, .int .i64 x15, .int .i64 x21, .int .i64 x22], H) = some (Sum.inr (Ex.exit 2, [Value.slice x1a x1n x1c, Value.slice x6a x6n x6c, Value.int .i64 x7, Value.int .i64 x8, Value.int .i64 x14, Value.int .i64 x15], H2)) :=
 lp_of2 [.e, .b true, .v (vP x27p x27o x27l), .v (vP x28p x28o x28l), .e, .v (.bool x32), .b true, .b true, .b true, .v (vP x36p x36o x36l), .b true, .v (vP x37p x37o x37l), .b true, .b true, .b true, .e, .b true, .v (.bool x41), .b true, .b true, .v (vP x47p x47o x47l), .v (vI x48), .v (vP x49p x49o x49l), .h H2] (ai (decide_eq_true h1) (ai h2 (ai h3 (ai h4 (ai h5 (ai h6 (ai h7 (ai h7 (ai h7 (ai h8 (ai h7 (ai h9 (ai h7 (ai h7 (ai h7 (ai h10 (ai h11 (ai h7 (ai h12 (ai h7 (ai h13 (ai h14 (ai h15 (ai h16 (ai h17 (ai h18 (Eq.refl (Sum.inr (Ex.exit 2, [vS x1a x1n x1c, vS x6a x6n x6c, vI x7, vI x8, vI x14, vI x15], H2) : LS ⊕ LO)))))))))))))))))))))))))))) (by kernel_rfl)
theorem f73_L1_1 (h1 : x22 < x21) (h2 : aX 109 (vS x1a x1n x1c) (vI x8) = some (vP x27p x27o x27l)) (h3 : getCells H x27p x27l x27o 1 = some [vP x28p x28o x28l]) (h4 : 0 ≤ x22) (h5 : x22 < (↑512 : Int)) (h6 : getCells H x28p x28l (x28o + x22.toNat * 1) 1 = some [Value.bool x32]) (h7 : x32 = true) (h8 : aX 109 (vS x1a x1n x1c) (vI x22) = some (vP x36p x36o x36l)) (h9 : getCells H x36p x36l x36o 1 = some [vP x37p x37o x37l]) (h10 : 0 ≤ x8) (h11 : x8 < (↑512 : Int)) (h12 : getCells H x37p x37l (x37o + x8.toNat * 1) 1 = some [Value.bool x41]) (h13 : x41 = false) (h14 : Fit .i64 (x22 + 1)) : lpOf cfg a73 1 prot H0 ([.slice x1a x1n x1c, .slice x6a x6n x6c, .int .i64 x7, .int .i64 x8, .int .i64 x14, .int .i64 x15, .int .i64 x21, .int .i64 x22], H) = some (Sum.inl ([Value.slice x1a x1n x1c, Value.slice x6a x6n x6c, Value.int .i64 x7, Value.int .i64 x8, Value.int .i64 x14, Value.int .i64 x15, Value.int .i64 x21, Value.int .i64 (x22 + 1)], H)) :=
 lp_of2 [.e, .b true, .v (vP x27p x27o x27l), .v (vP x28p x28o x28l), .e, .v (.bool x32), .b true, .b true, .b true, .v (vP x36p x36o x36l), .b true, .v (vP x37p x37o x37l), .b true, .b true, .b true, .e, .b true, .v (.bool x41), .b true, .b false, .e] (ai (decide_eq_true h1) (ai h2 (ai h3 (ai h4 (ai h5 (ai h6 (ai h7 (ai h7 (ai h7 (ai h8 (ai h7 (ai h9 (ai h7 (ai h7 (ai h7 (ai h10 (ai h11 (ai h7 (ai h12 (ai h7 (ai h13 (ai h14 (Eq.refl (Sum.inl ([vS x1a x1n x1c, vS x6a x6n x6c, vI x7, vI x8, vI x14, vI x15, vI x21, vI (x22 + 1)], H) : LS ⊕ LO)))))))))))))))))))))))) (by kernel_rfl)
theorem f73_L1_2 (h1 : x22 < x21) (h2 : aX 109 (vS x1a x1n x1c) (vI x8) = some (vP x27p x27o x27l)) (h3 : getCells H x27p x27l x27o 1 = some [vP x28p x28o x28l]) (h4 : 0 ≤ x22) (h5 : x22 < (↑512 : Int)) (h6 : getCells H x28p x28l (x28o + x22.toNat * 1) 1 = some [Value.bool x32]) (h7 : x32 = false) (h8 : Fit .i64 (x22 + 1)) : lpOf cfg a73 1 prot H0 ([.slice x1a x1n x1c, .slice x6a x6n x6c, .int .i64 x7, .int .i64 x8, .int .i64 x14, .int .i64 x15, .int .i64 x21, .int .i64 x22], H) = some (Sum.inl ([Value.slice x1a x1n x1c, Value.slice x6a x6n x6c, Value.int .i64 x7, Value.int .i64 x8, Value.int .i64 x14, Value.int .i64 x15, Value.int .i64 x21, Value.int .i64 (x22 + 1)], H)) :=
 lp_of2 [.e, .b true, .v (vP x27p x27o x27l), .v (vP x28p x28o x28l), .e, .v (.bool x32), .b false, .b false, .b false, .b false, .b false, .b false, .b false, .b false, .b false, .b false, .e] (ai (decide_eq_true h1) (ai h2 (ai h3 (ai h4 (ai h5 (ai h6 (ai h7 (ai h7 (ai h7 (ai h7 (ai h7 (ai h7 (ai h7 (ai h7 (ai h7 (ai (Eq.refl false) (ai h8 (Eq.refl (Sum.inl ([vS x1a x1n x1c, vS x6a x6n x6c, vI x7, vI x8, vI x14, vI x15, vI x21, vI (x22 + 1)], H) : LS ⊕ LO))))))))))))))))))) (by kernel_rfl)
theorem f73_L1_3 (h1 : ¬(x22 < x21)) : lpOf cfg a73 1 prot H0 ([.slice x1a x1n x1c, .slice x6a x6n x6c, .int .i64 x7, .int .i64 x8, .int .i64 x14, .int .i64 x15, .int .i64 x21, .int .i64 x22], H) = some (Sum.inr (Ex.exit 2, [Value.slice x1a x1n x1c, Value.slice x6a x6n x6c, Value.int .i64 x7, Value.int .i64 x8, Value.int .i64 x14, Value.int .i64 x15], H)) :=
 lp_of2 [.e, .b false] (ai (decide_eq_false h1) (Eq.refl (Sum.inr (Ex.exit 2, [vS x1a x1n x1c, vS x6a x6n x6c, vI x7, vI x8, vI x14, vI x15], H) : LS ⊕ LO))) (by kernel_rfl)
end
end Go.Proofs.Ythjkodbinkiifaa.Am23g
set_option linter.unusedVariables false
namespace Go.Proofs.Ythjkodbinkiifaa.Am23g
open Go Go.Proofs.Ythjkodbinkiifaa.Am Am23
section
variable {x0a x16a x17aa : Option Addr}
variable {x0n x0c prot x16n x16c x17an x17ac : Nat}
variable {H H1 H2 : AHeap}
variable {x9 x17b : Int}
theorem f56_F_0 (h1 : cI 72 [vS x0a x0n x0c] H.length H = some (vI x9, H)) (h2 : (x9 != 0) = true) : callInf cfg 56 [.slice x0a x0n x0c] prot H = some (Value.tuple { toList := [Value.slice none 0 0, Value.int .i64 0, Value.int .i64 x9] }, H) :=
 fn_of2 a56 [.v (vI x9), .e, .b true] (ai h1 (ai h2 (Eq.refl ((Value.tuple #[vS none 0 0, vI 0, vI x9], H) : Value × AHeap)))) (by kernel_rfl) rfl
theorem f56_F_1 (rv : Value) (rH : AHeap) (h1 : cI 72 [vS x0a x0n x0c] H.length H = some (vI x9, H)) (h2 : (x9 != 0) = false) (h3 : cI 74 [vS x0a x0n x0c] H.length H = some (vS x16a x16n x16c, H1)) (h4 : cI 73 [vS x0a x0n x0c, vS x16a x16n x16c] H.length H1 = some (Value.tuple #[vS x17aa x17an x17ac, vI x17b], H2)) (h5 : pfin a56 H [vS x17aa x17an x17ac, vI x17b, vI 0] H2 = (rv, rH)) : callInf cfg 56 [.slice x0a x0n x0c] prot H = some (rv, rH) :=
 fn_of2 a56 [.v (vI x9), .e, .b false, .r (vS x16a x16n x16c) H1, .r (.tuple #[vS x17aa x17an x17ac, vI x17b]) H2] (ai h1 (ai h2 (ai h3 (ai h4 h5)))) (by kernel_rfl) rfl
end
end Go.Proofs.Ythjkodbinkiifaa.Am23g
namespace Go.Proofs.Ythjkodbinkiifaa.Am23g
open Go Go.Proofs.Ythjkodbinkiifaa.Am Am23
theorem T65 : ElemT cfg.P 109 118 1 8 := ⟨by kernel_rfl, by kernel_rfl, by kernel_rfl, ⟨.pointer none, by kernel_rfl, rfl⟩, by kernel_rfl, by omega, by omega⟩
def ptl (ps : List Nat) : List Value := ps.map fun (p : Nat) => .pointer (some ⟨p, 0, some 512⟩)
/-- The marks of the first vertices. -/
structure Mk (G : List (List Int)) (H : AHeap) (v p : Nat) : Prop where
 ex : ∃ M, H[p]? = some (.cells (bll M) 121 512 .var) ∧ M.length = 512 ∧ ∀ u, at_ M u = true ↔ Rch G v u
theorem Mk.stay {G : List (List Int)} {H H' : AHeap} {v p : Nat} (h : Mk G H v p) {o : Option Nat} (s : Stay o H H') (hne : o ≠ some p) : Mk G H' v p := by
 obtain ⟨M, h1, h2, h3⟩ := h.ex
 exact ⟨M, by rw [s.2 p (List.getElem?_eq_some_iff.1 h1).1 hne]; exact h1, h2, h3⟩
theorem Mk.lt {G : List (List Int)} {H : AHeap} {v p : Nat} (h : Mk G H v p) : p < H.length := by
 obtain ⟨M, h1, _⟩ := h.ex
 exact (List.getElem?_eq_some_iff.1 h1).1
theorem gc_not {H H1 : AHeap} {e s n id : Nat} {x : Value} {cs : List Value} (h : Own H1 e s x (some id) n cs) (hp : cs.all plain0 = false) : gc H [x] H1 = (x, H1) := by
 obtain ⟨hl, hn, rfl, wr, hwr, hH⟩ := h
 unfold gc
 have hnd : noDup (sliceIds [.slice (some ⟨id, 0, some cs.length⟩) n n]) = true := rfl
 rw [if_pos hnd]
 have : keepAll H.length H1 [.slice (some ⟨id, 0, some cs.length⟩) n n] [] = none := by
  simp only [keepAll, keep1]
  split
  ·rfl
  ·rw [hH]
   simp [hp]
 rw [this]
 rfl

theorem loop37 {G : List (List Int)} (hG : Good G) {H0 : AHeap} {vG : Value} (hg : Gr H0 vG G) {prot : Nat} : ∀ (d i : Nat) (x : Value) (o : Option Nat) (ps : List Nat) (H : AHeap), i + d = G.length → Stay none H0 H → Own H 118 1 x o i (ptl ps) → ps.length = i → (∀ id, o = some id → H0.length ≤ id) → (∀ (j p : Nat), ps[j]? = some p → Mk G H j p ∧ o ≠ some p ∧ H0.length ≤ p) →
  ∃ x' o' ps' H', lpInf (lpOf cfg a74 0 prot H0) ([vG, x, .int .i64 G.length, .int .i64 i], H) = some (.exit 0, [x'], H') ∧ Stay none H0 H' ∧ Own H' 118 1 x' o' G.length (ptl ps') ∧ ps'.length = G.length ∧ (∀ id, o' = some id → H0.length ≤ id) ∧ (∀ (j p : Nat), ps'[j]? = some p → Mk G H' j p ∧ o' ≠ some p ∧ H0.length ≤ p)
 | 0, i, x, o, ps, H, hi, hst, hx, hl, ho, hm => by
  have he : i = G.length := by omega
  subst he
  obtain ⟨_, _, hge⟩ := hg.len
  have hx0 := hx
  obtain ⟨_, _, rfl⟩ := hx.len
  subst hge
  exact ⟨_, o, ps, H, lp_last (f74_L0_1 (by omega)), hst, hx0, hl, ho, hm⟩
 | d + 1, i, x, o, ps, H, hi, hst, hx, hl, ho, hm => by
  have hn := hG.1
  obtain ⟨pm, M, H2, c1, c2, c3, c4, c5, c6⟩ := c39 hG H0.length (hg.stay hst) (show i < G.length by omega)
  have hx2 := hx.stay c5 (fun _ _ h => by cases h)
  have l2 := c5.1
  have hpm := (List.getElem?_eq_some_iff.1 c2).1
  have h0 := hst.1
  obtain ⟨a', c', o', H3, q1, q2, q3, q4, q5, q6⟩ := own_app T65 hx2 (ecs := [.pointer (some ⟨pm, 0, some 512⟩)]) rfl rfl (prot := H0.length) (room := true) ho (by omega) (by omega) (L := 1 * 1) rfl (el := [Value.pointer (some ⟨pm, 0, some 512⟩)].length) rfl
  have hol : ∀ id, o = some id → id < H.length := fun id h => by
   rw [h] at hx
   exact (List.getElem?_eq_some_iff.1 hx.2.2.2.choose_spec.2).1
  have hne : o ≠ some pm := fun h => by have := hol pm h; omega
  have ho'pm : o' ≠ pm := by
   cases hh : o with
   | none => have := q5 hh; omega
   | some j => have := q6 j hh; have := hol j hh; omega
  have e1 : ptl ps ++ [.pointer (some ⟨pm, 0, some 512⟩)] = ptl (ps ++ [pm]) := by simp [ptl]
  rw [e1] at q2
  have hst3 : Stay none H0 H3 := (hst.trans c5).over q3 ho
  obtain ⟨x', o2, ps', H', z1, z2, z3, z4, z5, z6⟩ := loop37 hG hg (prot := prot) d (i + 1) _ (some o') (ps ++ [pm]) H3 (by omega) hst3 q2 (by simp [hl]) (fun id h => by cases h; exact q4) (fun j p hj => by
   by_cases hjl : j < ps.length
   ·rw [List.getElem?_append_left hjl] at hj
    obtain ⟨m1, m2, m3⟩ := hm j p hj
    refine ⟨(m1.stay c5 (by simp)).stay q3 m2, fun h => ?_, m3⟩
    have h := Option.some.inj h
    have := m1.lt
    cases hh : o with
    | none => have := q5 hh; omega
    | some k => have := q6 k hh; exact m2 (by rw [hh, ← this, h])
   ·rw [List.getElem?_append_right (by omega)] at hj
    cases hk : j - ps.length with
    | zero =>
     rw [hk] at hj
     have hj : pm = p := by simpa using hj
     subst hj
     have hjv : j = i := by omega
     subst hjv
     exact ⟨(⟨M, c2, c3, c4⟩ : Mk G H2 j pm).stay q3 hne, fun h => ho'pm (Option.some.inj h), by omega⟩
    | succ k => rw [hk] at hj; simp at hj)
  refine ⟨x', o2, ps', H', ?_, z2, z3, z4, z5, z6⟩
  obtain ⟨_, _, hge⟩ := hg.len
  obtain ⟨_, _, rfl⟩ := hx.len
  subst hge
  exact lp_next (f74_L0_0 (by omega) c1 q1 (fit64 (by omega) (by omega))) z1

/-- The list of marks, one for each vertex. -/
structure WL (G : List (List Int)) (H : AHeap) (x : Value) : Prop where
 ex : ∃ ps : List Nat, Rd H 118 1 x G.length (ptl ps) ∧ ps.length = G.length ∧ ∀ (j p : Nat), ps[j]? = some p → Mk G H j p
theorem WL.stay {G : List (List Int)} {H H' : AHeap} {x : Value} (h : WL G H x) (s : Stay none H H') : WL G H' x := by
 obtain ⟨ps, h1, h2, h3⟩ := h.ex
 exact ⟨ps, h1.stay s, h2, fun j p hj => (h3 j p hj).stay s (by simp)⟩
theorem c37 {G : List (List Int)} (hG : Good G) {vG : Value} (prot : Nat) {H : AHeap} (hg : Gr H vG G) : ∃ a c H', callInf cfg 74 [vG] prot H = some (.slice a G.length c, H') ∧ WL G H' (.slice a G.length c) ∧ Stay none H H' := by
 obtain ⟨x', o', ps', H', z1, z2, z3, z4, z5, z6⟩ := loop37 hG hg (prot := prot) G.length 0 (.slice none 0 0) none [] H (by omega) (Stay.refl _ _) own_nil rfl (fun id h => by cases h) (fun j p hj => by simp at hj)
 obtain ⟨aG, cG, rfl⟩ := hg.len
 have hz3 := z3
 obtain ⟨ax, cx, rfl⟩ := z3.len
 cases ho : o' with
 | none =>
  rw [ho] at hz3
  have h0 : G.length = 0 := hz3.2.1
  rcases hz3.2.2 with hx | hx
  ·have : pfin a74 H [.slice ax G.length cx] H' = (.slice ax G.length cx, H) := by
    rw [pfin_eq, if_neg (by simp [a74]), hx]
    exact gc_plain rfl
   refine ⟨ax, cx, H, f74_F_0 _ _ z1 this, ⟨[], ⟨by rw [h0]; rfl, .inl ⟨h0, .inl hx⟩⟩, by simp [h0], fun j p hj => by simp at hj⟩, Stay.refl _ _⟩
  ·have : pfin a74 H [.slice ax G.length cx] H' = (.slice ax G.length cx, H) := by
    rw [pfin_eq, if_neg (by simp [a74]), hx]
    rfl
   refine ⟨ax, cx, H, f74_F_0 _ _ z1 this, ⟨[], ⟨by rw [h0]; rfl, .inl ⟨h0, .inr hx⟩⟩, by simp [h0], fun j p hj => by simp at hj⟩, Stay.refl _ _⟩
 | some id =>
  rw [ho] at hz3
  have hpos : 0 < G.length := hz3.2.1
  have hnp : (ptl ps').all plain0 = false := by
   rw [List.all_eq_false]
   cases ps' with
   | nil => simp at z4; omega
   | cons p ps => exact ⟨.pointer (some ⟨p, 0, some 512⟩), by simp [ptl], by simp [plain0]⟩
  have : pfin a74 H [.slice ax G.length cx] H' = (.slice ax G.length cx, H') := by
   rw [pfin_eq, if_neg (by simp [a74])]
   exact gc_not hz3 hnp
  exact ⟨ax, cx, H', f74_F_0 _ _ z1 this, ⟨ps', z3.rd, z4, fun j p hj => (z6 j p hj).1⟩, z2⟩
theorem WL.at {G : List (List Int)} {H : AHeap} {x : Value} (h : WL G H x) {v u : Nat} (hv : v < G.length) (hu : u < 512) :
  ∃ id L p b, aindexAddr cfg.P 109 x (.int .i64 v) = some (.pointer (some ⟨id, v, some L⟩)) ∧ getCells H id L v 1 = some [.pointer (some ⟨p, 0, some 512⟩)] ∧ getCells H p 512 (0 + u * 1) 1 = some [.bool b] ∧ (b = true ↔ Rch G v u) := by
 obtain ⟨ps, h1, h2, h3⟩ := h.ex
 have hp : ps[v]? = some ps[v] := List.getElem?_eq_getElem (by omega)
 obtain ⟨id, L, a, b⟩ := rd_at T65 h1 (show (ptl ps)[v]? = some (.pointer (some ⟨ps[v], 0, some 512⟩)) by unfold ptl; rw [List.getElem?_map, hp]; rfl)
 obtain ⟨M, m1, m2, m3⟩ := (h3 v _ hp).ex
 exact ⟨id, L, ps[v], at_ M u, a, b, arr_get m1 (by simp [bll, m2]) (at_get (by omega)), m3 u⟩
end Go.Proofs.Ythjkodbinkiifaa.Am23g
namespace Go.Proofs.Ythjkodbinkiifaa.Am23g
open Go Go.Proofs.Ythjkodbinkiifaa.Am Am23
/-- Does each one reach the other? -/
noncomputable def mu (G : List (List Int)) (v u : Nat) : Bool := @decide (Rch G v u ∧ Rch G u v) (Classical.propDecidable _)
theorem mu_iff {G : List (List Int)} {v u : Nat} : mu G v u = true ↔ Rch G v u ∧ Rch G u v := by unfold mu; exact @decide_eq_true_iff _ (Classical.propDecidable _)
def findM (p : Nat → Bool) : Nat → Nat → Option Nat
 | 0, _ => none
 | d + 1, u => if p u then some u else findM p d (u + 1)
theorem findM_some {p : Nat → Bool} : ∀ {d u w : Nat}, findM p d u = some w → u ≤ w ∧ w < u + d ∧ p w = true
 | 0, _, _, h => by cases h
 | d + 1, u, w, h => by
  rw [findM] at h
  split at h
  ·cases h; rename_i hp; exact ⟨Nat.le_refl _, by omega, hp⟩
  ·obtain ⟨a, b, c⟩ := findM_some h; exact ⟨by omega, by omega, c⟩
theorem findM_none {p : Nat → Bool} : ∀ {d u : Nat}, findM p d u = none → ∀ w, u ≤ w → w < u + d → p w = false
 | 0, _, _, w, h1, h2 => by omega
 | d + 1, u, h, w, h1, h2 => by
  rw [findM] at h
  split at h
  ·cases h
  ·rename_i hp
   by_cases e : w = u
   ·subst e; simpa using hp
   ·exact findM_none h w (by omega) (by omega)
/-- The numbers of the components. -/
noncomputable def numR (G : List (List Int)) : Nat → Nat → List Nat → Nat → List Nat × Nat
 | 0, _, out, n => (out, n)
 | d + 1, v, out, n => match findM (mu G v) v 0 with
  | some u => numR G d (v + 1) (out ++ [out.getD u 0]) n
  | none => numR G d (v + 1) (out ++ [n]) (n + 1)
noncomputable def comp (G : List (List Int)) : List Nat × Nat := numR G G.length 0 [] 0
def nl (l : List Nat) : List Int := l.map fun (x : Nat) => (x : Int)
def pad (N : Nat) (l : List Int) : List Int := l ++ List.replicate (N - l.length) 0
theorem pad_len {N : Nat} {l : List Int} (h : l.length ≤ N) : (pad N l).length = N := by unfold pad; simp; omega
theorem pad_set {N : Nat} {l : List Int} {x : Int} (h : l.length < N) : (pad N l).set l.length x = pad N (l ++ [x]) := by
 unfold pad
 rw [List.set_append_right _ _ (Nat.le_refl _), Nat.sub_self, show N - l.length = (N - (l ++ [x]).length) + 1 by simp; omega, List.replicate_succ, List.set_cons_zero]
 simp
theorem pad_set2 {N : Nat} {l : List Int} {x y : Int} : (pad N (l ++ [x])).set l.length y = pad N (l ++ [y]) := by
 unfold pad
 rw [List.append_assoc, List.set_append_right _ _ (Nat.le_refl _), Nat.sub_self, List.append_assoc]
 simp
theorem pad_get {N : Nat} {l : List Int} {u : Nat} (h : u < l.length) : (pad N l).getD u 0 = l.getD u 0 := by
 unfold pad
 rw [List.getD_eq_getElem?_getD, List.getElem?_append_left h, ← List.getD_eq_getElem?_getD]
theorem put_il (l : List Int) {i : Nat} (hi : i < l.length) (c : Int) : putList (il l) (i * 1 + 0) [.int .i64 c] = il (l.set i c) := put_map (Value.int .i64) l hi c

theorem loop36i {G : List (List Int)} (hG : Good G) {G0 : AHeap} {x1 : Value} (hw : WL G G0 x1) {o6 : Nat} (ho : G0.length ≤ o6) {H0 : AHeap} (hp : H0.length ≤ o6) {prot : Nat} {x6 : Value} {n : Int} {v : Nat} (hv : v < G.length) {D : List Int} (hD : D.length = G.length) (hx1 : ∃ a c, x1 = .slice a G.length c) : ∀ (d u : Nat) (H : AHeap), u + d = v → Stay none G0 H → Own H 3 1 x6 (some o6) G.length (il D) →
  ∃ H', lpInf (lpOf cfg a73 1 prot H0) ([x1, x6, .int .i64 n, .int .i64 v, .int .i64 G.length, .int .i64 v, .int .i64 v, .int .i64 u], H) = some (.exit 2, [x1, x6, .int .i64 n, .int .i64 v, .int .i64 G.length, .int .i64 v], H') ∧
   Own H' 3 1 x6 (some o6) G.length (il (match findM (mu G v) d u with | some w => D.set v (D.getD w 0) | none => D)) ∧ Stay (some o6) H H'
 | 0, u, H, hu, hst, hx => by
  obtain ⟨_, _, rfl⟩ := hx1
  have hx0 := hx
  obtain ⟨_, _, rfl⟩ := hx.len
  exact ⟨H, lp_last (f73_L1_3 (by omega)), hx0, Stay.refl _ _⟩
 | d + 1, u, H, hu, hst, hx => by
  have hn := hG.1
  obtain ⟨i1, L1, p1, b1, a1, a2, a3, a4⟩ := (hw.stay hst).at hv (show u < 512 by omega)
  obtain ⟨i2, L2, p2, b2, c1, c2, c3, c4⟩ := (hw.stay hst).at (show u < G.length by omega) (show v < 512 by omega)
  have fi : Fit .i64 ((u : Int) + 1) := fit64 (by omega) (by omega)
  obtain ⟨ax, cx, rfl⟩ := hx1
  rw [findM]
  by_cases hm : mu G v u = true
  ·rw [if_pos hm]
   obtain ⟨m1, m2⟩ := mu_iff.1 hm
   have hb1 := a4.2 m1
   have hb2 := c4.2 m2
   subst hb1; subst hb2
   obtain ⟨_, e1, q1, q2⟩ := own_at T34 hx (show (il D)[u]? = some (.int .i64 (D.getD u 0)) by rw [il_get (by omega), List.getD_eq_getElem?_getD, List.getElem?_eq_getElem (by omega)]; rfl)
   cases e1
   obtain ⟨_, H2, e2, s1, s2, s3, s4, s5⟩ := own_setS T34 hx (i := v) (j := 0) hv (vs := [.int .i64 (D.getD u 0)]) (by simp) rfl (prot := H0.length) (fun id h => by cases h; exact hp)
   cases e2
   rw [put_il D (by omega)] at s3
   obtain ⟨_, _, rfl⟩ := hx.len
   exact ⟨H2, lp_last (f73_L1_0 (by omega) a1 a2 (by omega) (by omega) a3 rfl c1 c2 (by omega) (by omega) c3 rfl q1 q2 s1 rfl s2), s3, s4⟩
  ·rw [if_neg hm]
   obtain ⟨H', z1, z2, z3⟩ := loop36i hG hw ho hp (prot := prot) (n := n) hv hD ⟨ax, cx, rfl⟩ d (u + 1) H (by omega) hst hx
   refine ⟨H', ?_, z2, z3⟩
   obtain ⟨_, _, rfl⟩ := hx.len
   cases b1 with
   | true =>
    cases b2 with
    | true => exact absurd (mu_iff.2 ⟨a4.1 rfl, c4.1 rfl⟩) hm
    | false => exact lp_next (f73_L1_1 (by omega) a1 a2 (by omega) (by omega) a3 rfl c1 c2 (by omega) (by omega) c3 rfl fi) z1
   | false => exact lp_next (f73_L1_2 (by omega) a1 a2 (by omega) (by omega) a3 rfl fi) z1

theorem loop36o {G : List (List Int)} (hG : Good G) {G0 : AHeap} {x1 : Value} (hw : WL G G0 x1) {o6 : Nat} (ho : G0.length ≤ o6) {H0 : AHeap} (hp : H0.length ≤ o6) {prot : Nat} {x6 : Value} (hx1 : ∃ a c, x1 = .slice a G.length c) : ∀ (d v : Nat) (out : List Nat) (n : Nat) (H : AHeap), v + d = G.length → out.length = v → n ≤ v → (∀ x ∈ out, x < 512) → Stay none G0 H → Own H 3 1 x6 (some o6) G.length (il (pad G.length (nl out))) →
  ∃ H', lpInf (lpOf cfg a73 0 prot H0) ([x1, x6, .int .i64 n, .int .i64 G.length, .int .i64 v], H) = some (.exit 0, [x6, .int .i64 (numR G d v out n).2], H') ∧ Own H' 3 1 x6 (some o6) G.length (il (nl (numR G d v out n).1)) ∧ (numR G d v out n).1.length = G.length ∧ Stay (some o6) H H'
 | 0, v, out, n, H, hv, hl, hn, h512, hst, hx => by
  have he : pad G.length (nl out) = nl out := by unfold pad; rw [show G.length - (nl out).length = 0 by simp [nl]; omega]; simp
  rw [he] at hx
  obtain ⟨_, _, rfl⟩ := hx1
  have hx0 := hx
  obtain ⟨_, _, rfl⟩ := hx.len
  exact ⟨H, lp_last (f73_L0_2 (by omega)), hx0, by show out.length = G.length; omega, Stay.refl _ _⟩
 | d + 1, v, out, n, H, hv, hl, hn, h512, hst, hx => by
  have h5 := hG.1
  have hnl : (nl out).length = v := by simp [nl, hl]
  have hvl : v < G.length := by omega
  obtain ⟨_, H2, e2, s1, s2, s3, s4, s5⟩ := own_setS T34 hx (i := v) (j := 0) hvl (vs := [.int .i64 (-1)]) (by simp) rfl (prot := H0.length) (fun id h => by cases h; exact hp)
  cases e2
  rw [put_il _ (by rw [pad_len (by omega)]; exact hvl), show v = (nl out).length from hnl.symm, pad_set (by omega)] at s3
  have hst2 : Stay none G0 H2 := hst.over s4 (fun id h => by cases h; exact ho)
  have hDl : (pad G.length (nl out ++ [-1])).length = G.length := pad_len (by simp; omega)
  obtain ⟨H3, u1, u2, u3⟩ := loop36i hG hw ho hp (prot := prot) (n := (n : Int)) hvl hDl hx1 v 0 H2 (by omega) hst2 s3
  have hst3 : Stay none G0 H3 := hst2.over u3 (fun id h => by cases h; exact ho)
  obtain ⟨ax, cx, hxe⟩ := hx1
  have hx6 := hx.len
  rw [numR]
  cases hf : findM (mu G v) v 0 with
  | some u =>
   rw [hf] at u2
   obtain ⟨_, hu, _⟩ := findM_some hf
   have hget : (pad G.length (nl out ++ [-1])).getD u 0 = ((out.getD u 0 : Nat) : Int) := by
    rw [pad_get (by simp; omega), List.getD_eq_getElem?_getD, List.getElem?_append_left (by omega)]
    unfold nl
    rw [List.getElem?_map, List.getD_eq_getElem?_getD, List.getElem?_eq_getElem (by omega)]
    rfl
   simp only at u2
   rw [hget, show v = (nl out).length from hnl.symm, pad_set2] at u2
   have hnl2 : nl out ++ [((out.getD u 0 : Nat) : Int)] = nl (out ++ [out.getD u 0]) := by simp [nl]
   rw [hnl2] at u2
   have hval : out.getD u 0 < 512 := by
    rw [List.getD_eq_getElem?_getD, List.getElem?_eq_getElem (by omega)]
    exact h512 _ (List.getElem_mem _)
   obtain ⟨H', z1, z2, z3, z4⟩ := loop36o hG hw ho hp (prot := prot) ⟨ax, cx, hxe⟩ d (v + 1) (out ++ [out.getD u 0]) n H3 (by omega) (by simp [hl]) (by omega) (fun x hx => by
    rw [List.mem_append, List.mem_singleton] at hx
    rcases hx with hx | rfl
    ·exact h512 x hx
    ·exact hval) hst3 u2
   have hrow : (il (pad G.length (nl (out ++ [out.getD u 0]))))[v]? = some (.int .i64 ((out.getD u 0 : Nat) : Int)) := by
    unfold il pad
    rw [List.getElem?_map, List.getElem?_append_left (by simp [nl]; omega)]
    unfold nl
    rw [List.map_append, List.getElem?_append_right (by simp; omega)]
    simp [hl]
   obtain ⟨_, e3, q1, q2⟩ := own_at T34 u2 hrow
   cases e3
   refine ⟨H', ?_, z2, z3, (s4.trans u3).trans z4⟩
   obtain ⟨a6, c6, rfl⟩ := hx6
   subst hxe
   exact lp_next (f73_L0_1 (by omega) s1 rfl s2 u1 q1 q2 (by omega) (fit64 (by omega) (by omega))) z1
  | none =>
   rw [hf] at u2
   simp only at u2
   have hrow : (il (pad G.length (nl out ++ [-1])))[v]? = some (.int .i64 (-1)) := by
    unfold il pad
    rw [List.getElem?_map, List.getElem?_append_left (by simp; omega), List.getElem?_append_right (by omega), hnl, Nat.sub_self]
    rfl
   obtain ⟨_, e3, q1, q2⟩ := own_at T34 u2 hrow
   cases e3
   obtain ⟨_, H4, e4, t1, t2, t3, t4, t5⟩ := own_setS T34 u2 (i := v) (j := 0) hvl (vs := [.int .i64 (n : Int)]) (by simp) rfl (prot := H0.length) (fun id h => by cases h; exact hp)
   cases e4
   rw [put_il _ (by rw [hDl]; exact hvl)] at t3
   rw [show v = (nl out).length from hnl.symm, pad_set2] at t3
   have hnl2 : nl out ++ [((n : Nat) : Int)] = nl (out ++ [n]) := by simp [nl]
   rw [hnl2] at t3
   obtain ⟨H', z1, z2, z3, z4⟩ := loop36o hG hw ho hp (prot := prot) ⟨ax, cx, hxe⟩ d (v + 1) (out ++ [n]) (n + 1) H4 (by omega) (by simp [hl]) (by omega) (fun x hx => by
    rw [List.mem_append, List.mem_singleton] at hx
    rcases hx with hx | rfl
    ·exact h512 x hx
    ·omega) (hst3.over t4 (fun id h => by cases h; exact ho)) t3
   refine ⟨H', ?_, z2, z3, ((s4.trans u3).trans t4).trans z4⟩
   obtain ⟨a6, c6, rfl⟩ := hx6
   subst hxe
   exact lp_next (f73_L0_0 (by omega) s1 rfl s2 u1 q1 q2 (by omega) t1 rfl t2 (fit64 (by omega) (by omega)) (fit64 (by omega) (by omega))) z1
end Go.Proofs.Ythjkodbinkiifaa.Am23g
namespace Go.Proofs.Ythjkodbinkiifaa.Am23g
open Go Go.Proofs.Ythjkodbinkiifaa.Am Am23
/-! A list that rises is sorted: it stays. -/
end Go.Proofs.Ythjkodbinkiifaa.Am23g
namespace Go.Proofs.Ythjkodbinkiifaa.Am
open Go
/-- A row of one's own, it may be empty. -/
def OwnE (H : AHeap) (e : Nat) (x : Value) (n : Nat) (cs : List Value) (b : Nat) : Prop :=
 (∃ o, Own H e 1 x o n cs ∧ ∀ id, o = some id → b ≤ id) ∨ (n = 0 ∧ cs = [] ∧ ∃ id, x = .slice (some ⟨id, 0, some 0⟩) 0 0 ∧ b ≤ id ∧ H[id]? = some (.cells [] e 0 .row))
theorem OwnE.rd {H : AHeap} {e n b : Nat} {x : Value} {cs : List Value} (h : OwnE H e x n cs b) : Rd H e 1 x n cs := by
 rcases h with ⟨o, h, _⟩ | ⟨rfl, rfl, id, rfl, _, h⟩
 ·exact h.rd
 ·exact ⟨rfl, .inr ⟨id, 0, 0, .row, 0, [], rfl, Nat.le_refl _, Nat.le_refl _, Nat.le_refl _, h, rfl⟩⟩
theorem OwnE.weak {H : AHeap} {e n b c : Nat} {x : Value} {cs : List Value} (h : OwnE H e x n cs b) (hc : c ≤ b) : OwnE H e x n cs c := by
 rcases h with ⟨o, h, h2⟩ | ⟨a1, a2, id, a3, h1, h⟩
 ·exact .inl ⟨o, h, fun id e => Nat.le_trans hc (h2 id e)⟩
 ·exact .inr ⟨a1, a2, id, a3, Nat.le_trans hc h1, h⟩
/-- It is handed back. -/
theorem gcE {H H1 : AHeap} {e n : Nat} {x : Value} {cs : List Value} (h : OwnE H1 e x n cs H.length) (hp : cs.all plain0 = true) {ps : List Value} (hps : ps.all plain1 = true) :
  ∃ x' H', gc H (x :: ps) H1 = (tupled (x' :: ps), H') ∧ OwnE H' e x' n cs H.length ∧ Stay none H H' := by
 rcases h with ⟨o, h, h2⟩ | ⟨rfl, rfl, id, rfl, h1, h⟩
 ·obtain ⟨x', o', H', g1, g2, g3, g4, _⟩ := gc_row h h2 hp hps
  exact ⟨x', H', g1, .inl ⟨o', g2, g4⟩, g3⟩
 ·refine ⟨.slice (some ⟨H.length, 0, some 0⟩) 0 0, H ++ [.cells [] e 0 .row], ?_, .inr ⟨rfl, rfl, H.length, rfl, Nat.le_refl _, append_get.1⟩, Stay.app none H _⟩
  unfold gc
  simp only [gcHeap]
  simp only [sliceIds, sliceIds_plain ps hps, noDup, List.contains_nil, Bool.not_false, Bool.and_self, if_true, keepAll, keep1]
  rw [if_neg (by omega), h]
  simp only
  rw [if_pos ⟨rfl, by simp⟩, Option.bind_some, keepAll_plain ps _ hps]
  simp
theorem own_mk {e n : Nat} (hn : 0 < n) (H : AHeap) (c : Value) : Own (H ++ [.cells (repCells [c] n) e (repCells [c] n).length .row]) e 1 (.slice (some ⟨H.length, 0, some (n * 1)⟩) n n) (some H.length) n (List.replicate n c) := by
 have e1 : repCells [c] n = List.replicate n c := by
  have := rep_map (fun _ : Nat => c) 0 n
  rw [this, List.map_replicate]
 rw [e1]
 exact own_new (by simp) hn (by simp) rfl
end Go.Proofs.Ythjkodbinkiifaa.Am
namespace Go.Proofs.Ythjkodbinkiifaa.Am
open Go
/-! Lists that are their maker's own: marked, and grown in turn. -/
theorem Rd.stayE {H H' : AHeap} {e s : Nat} {x : Value} {n : Nat} {cs : List Value} (h : Rd H e s x n cs) {p e' wr : Nat} {l : List Value} {md : OMode} (hp : H[p]? = some (.cells l e' wr md)) (hne : e' ≠ e) (k : Stay (some p) H H') : Rd H' e s x n cs := by
 refine ⟨h.1, ?_⟩
 rcases h.2 with h2 | ⟨id, L, wr2, md2, c, all, h2, h3, h4, h5, h6, h7⟩
 ·exact .inl h2
 ·refine .inr ⟨id, L, wr2, md2, c, all, h2, h3, h4, h5, ?_, h7⟩
  rw [k.2 id (List.getElem?_eq_some_iff.1 h6).1 (fun e1 => ?_)]
  ·exact h6
  ·have := Option.some.inj e1
   subst this
   rw [hp] at h6
   cases h6
   exact hne rfl
theorem Own.stayE {H H' : AHeap} {e s : Nat} {x : Value} {o : Option Nat} {n : Nat} {cs : List Value} (h : Own H e s x o n cs) {p e' wr : Nat} {l : List Value} {md : OMode} (hp : H[p]? = some (.cells l e' wr md)) (hne : e' ≠ e) (k : Stay (some p) H H') : Own H' e s x o n cs := by
 refine h.stay k (fun id e1 e2 => ?_)
 have := Option.some.inj e2
 subst this
 subst e1
 obtain ⟨_, _, _, wr2, _, h2⟩ := h
 rw [hp] at h2
 cases h2
 exact hne rfl

/-- A row of one's own. -/
def RX (H : AHeap) (e : Nat) (r : Value) (n : Nat) (o : Option Nat) (vs : List Value) : Prop :=
 match o with
 | none => n = 0 ∧ vs = [] ∧ (r = .slice none 0 0 ∨ r = emptySlice)
 | some id => vs.length = n ∧ r = .slice (some ⟨id, 0, some n⟩) n n ∧ ∃ wr, wr ≤ n ∧ H[id]? = some (.cells vs e wr .row)
theorem put_one (L : List Value) {i : Nat} (hi : i < L.length) (v : Value) : putList L i [v] = L.set i v := by
 unfold putList
 rw [List.set_eq_take_append_cons_drop, if_pos hi]
 simp
/-- A row and what it has grown to. -/
structure GK (H : AHeap) (e : Nat) (r g : Value) (n k : Nat) (o o' : Option Nat) (vs ws : List Value) : Prop where
 rl : ∃ a c, r = .slice a n c
 vl : vs.length = n
 wl : ws.length = k
 old : ∀ a, o = some a → o' = some a
 z : o = none → n = 0
 gl : (o' = none ∧ k = 0 ∧ (g = .slice none 0 0 ∨ g = emptySlice)) ∨ ∃ id wr, o' = some id ∧ g = .slice (some ⟨id, 0, some (n + k)⟩) (n + k) (n + k) ∧ wr ≤ n + k ∧ H[id]? = some (.cells (vs ++ ws) e wr .row) ∧ (0 < n → wr ≤ n ∧ r = .slice (some ⟨id, 0, some n⟩) n n)
end Go.Proofs.Ythjkodbinkiifaa.Am
namespace Go.Proofs.Ythjkodbinkiifaa.Am23g
open Go Go.Proofs.Ythjkodbinkiifaa.Am Am23
/-- Rows of one's own, listed. -/
structure Rows (H : AHeap) (x0 : Value) (N : Nat) (r : Nat → Value) (n : Nat → Nat) (o : Nat → Option Nat) (V : Nat → List Int) : Prop where
 rd : ∃ cs, Rd H 22 1 x0 N cs ∧ ∀ j, j < N → cs[j]? = some (r j)
 rx : ∀ j, j < N → RX H 3 (r j) (n j) (o j) (il (V j))
/-- No two of them are one. -/
def Dis (N : Nat) (o : Nat → Option Nat) : Prop := ∀ i j, i < N → j < N → i ≠ j → ∀ a, o i = some a → o j ≠ some a
end Go.Proofs.Ythjkodbinkiifaa.Am23g
namespace Go.Proofs.Ythjkodbinkiifaa.Am23g
open Go Go.Proofs.Ythjkodbinkiifaa.Am Am23
/-! All edges turned round. -/
def addE (T : Nat → List Nat) (u v : Nat) : Nat → List Nat := fun j => if j = u then T u ++ [v] else T j
/-! ### The machine -/
structure Out (B : Nat) (H : AHeap) (x3 : Value) (N : Nat) (r : Nat → Value) (o : Nat → Option Nat) (o3 : Nat) (T : Nat → List Nat) : Prop where
 x3 : Own H 22 1 x3 (some o3) N ((List.range N).map r)
 rx : ∀ j, j < N → Own H 3 1 (r j) (o j) (T j).length (il (nl (T j)))
 b3 : B ≤ o3
 bo : ∀ j, j < N → ∀ a, o j = some a → B ≤ a
 dis : Dis N o
theorem range_at {N : Nat} (r : Nat → Value) {u : Nat} (h : u < N) : ((List.range N).map r)[u]? = some (r u) := by rw [List.getElem?_map, List.getElem?_range h]; rfl
theorem own_lt {H : AHeap} {e s : Nat} {x : Value} {id n : Nat} {cs : List Value} (h : Own H e s x (some id) n cs) : id < H.length := by
 obtain ⟨_, _, _, wr, _, h2⟩ := h
 exact (List.getElem?_eq_some_iff.1 h2).1
end Go.Proofs.Ythjkodbinkiifaa.Am23g
namespace Go.Proofs.Ythjkodbinkiifaa.Am23g
open Go Go.Proofs.Ythjkodbinkiifaa.Am Am23
/-- Lists of lists, each of one's own. -/
structure Mine (B : Nat) (H : AHeap) (x : Value) (N : Nat) (T : Nat → List Nat) : Prop where
 ex : (∃ r o o3, Out B H x N r o o3 T) ∨ (N = 0 ∧ ∃ id, x = .slice (some ⟨id, 0, some 0⟩) 0 0 ∧ B ≤ id ∧ H[id]? = some (.cells [] 22 0 .row))
theorem Mine.rd {B : Nat} {H : AHeap} {x : Value} {N : Nat} {T : Nat → List Nat} (h : Mine B H x N T) : ∃ cs, Rd H 22 1 x N cs ∧ ∀ j, j < N → ∃ r, cs[j]? = some r ∧ Rd H 3 1 r (T j).length (il (nl (T j))) := by
 rcases h.ex with ⟨r, o, o3, h⟩ | ⟨h0, id, h1, h2, h3⟩
 ·exact ⟨_, h.x3.rd, fun j hj => ⟨r j, range_at r hj, (h.rx j hj).rd⟩⟩
 ·subst h0; subst h1
  exact ⟨[], ⟨rfl, .inr ⟨id, 0, 0, .row, 0, [], rfl, Nat.le_refl _, Nat.le_refl _, Nat.le_refl _, h3, rfl⟩⟩, fun j hj => by omega⟩
theorem out_start {N : Nat} (hN : 0 < N) (H : AHeap) : Out H.length (H ++ [.cells (repCells [.slice none 0 0] N) 22 (repCells [.slice none 0 0] N).length .row]) (.slice (some ⟨H.length, 0, some (N * 1)⟩) N N) N (fun _ => .slice none 0 0) (fun _ => none) H.length (fun _ => []) := by
 have h := own_mk (e := 22) hN H (.slice none 0 0)
 refine ⟨?_, fun j hj => own_nil, Nat.le_refl _, fun j hj a ha => (by cases ha), fun i j hi hj hne a ha => (by cases ha)⟩
 have e : List.replicate N (Value.slice none 0 0) = (List.range N).map (fun _ => Value.slice none 0 0) := by
  rw [List.map_const', List.length_range]
 rw [← e]
 exact h
/-- Lists that are not all nil are not plain; if all are nil, they are copied. -/
theorem gc_mine {H H1 : AHeap} {x : Value} {N : Nat} {T : Nat → List Nat} (hm : Mine H.length H1 x N T) (hst : Stay none H H1) {ps : List Value} (hps : ps.all plain1 = true) :
  ∃ x' H', gc H (x :: ps) H1 = (tupled (x' :: ps), H') ∧ Mine H.length H' x' N T ∧ Stay none H H' := by
 rcases hm.ex with ⟨r, o, o3, h⟩ | ⟨h0, id, h1, h2, h3⟩
 ·by_cases hp : ((List.range N).map r).all plain0 = true
  ·obtain ⟨x', o', H', g1, g2, g3, g4, g5⟩ := gc_row (H := H) h.x3 (fun id e => by cases e; exact h.b3) hp hps
   have hN : 0 < N := h.x3.2.1
   cases ho' : o' with
   | none => rw [ho'] at g2; have := g2.2.1; omega
   | some o4 =>
    rw [ho'] at g2 g4
    refine ⟨x', H', g1, ⟨.inl ⟨r, o, o4, g2, fun j hj => ?_, g4 o4 rfl, h.bo, h.dis⟩⟩, g3⟩
    have hj2 := h.rx j hj
    have hpl := List.all_eq_true.1 hp (r j) (List.mem_map.2 ⟨j, List.mem_range.2 hj, rfl⟩)
    cases hoj : o j with
    | none => rw [hoj] at hj2; exact hj2
    | some a =>
     rw [hoj] at hj2
     rw [hj2.2.2.1] at hpl
     cases hpl
  ·refine ⟨x, H1, ?_, hm, hst⟩
   have hp : ((List.range N).map r).all plain0 = false := by simpa using hp
   obtain ⟨hl, hn, hx, wr, hwr, hH⟩ := h.x3
   have hk : keepAll H.length H1 (x :: ps) [] = none := by
    rw [hx]
    simp only [keepAll, keep1]
    split
    ·rfl
    ·rw [hH]
     simp [hp]
   unfold gc
   rw [hk]
   have hnd : noDup (sliceIds (x :: ps)) = true := by
    rw [hx]
    simp [sliceIds, sliceIds_plain ps hps, noDup]
   rw [if_pos hnd]
 ·subst h0; subst h1
  refine ⟨.slice (some ⟨H.length, 0, some 0⟩) 0 0, H ++ [.cells [] 22 0 .row], ?_, ⟨.inr ⟨rfl, H.length, rfl, Nat.le_refl _, append_get.1⟩⟩, Stay.app none H _⟩
  unfold gc
  simp only [gcHeap]
  simp only [sliceIds, sliceIds_plain ps hps, noDup, List.contains_nil, Bool.not_false, Bool.and_self, if_true, keepAll, keep1]
  rw [if_neg (by omega), h3]
  simp only
  rw [if_pos ⟨rfl, by simp⟩, Option.bind_some, keepAll_plain ps _ hps]
  simp

end Go.Proofs.Ythjkodbinkiifaa.Am23g
namespace Go.Proofs.Ythjkodbinkiifaa.Am23g
open Go Go.Proofs.Ythjkodbinkiifaa.Am Am23
/-! A row grows, by a call that protects less. -/
theorem Out.appP {B p : Nat} (hp : p ≤ B) {H : AHeap} {x3 : Value} {N : Nat} {r : Nat → Value} {o : Nat → Option Nat} {o3 : Nat} {T : Nat → List Nat} (h : Out B H x3 N r o o3 T) {u : Nat} (hu : u < N) (v : Nat) {room : Bool} (hn : (T u).length ≤ 10000000) (hB : B ≤ H.length) :
  ∃ a' c' H2 H3 id3 L3, aindexAddr cfg.P 86 x3 (.int .i64 (u : Nat)) = some (.pointer (some ⟨id3, u, some L3⟩)) ∧ getCells H id3 L3 u 1 = some [r u] ∧
   aappend cfg.P p room 22 22 (r u) (.slice (some ⟨H.length, 0, some (1 * 1)⟩) 1 1) (H ++ [wo [.int .i64 (v : Int)] 3]) = some (.slice a' ((T u).length + 1) c', H2) ∧
   setCells H2 p id3 L3 u [.slice a' ((T u).length + 1) c'] = some H3 ∧ (∃ r' o', Out B H3 x3 N r' o' o3 (addE T u v)) ∧ (∀ q, q < B → H3[q]? = H[q]?) ∧ B ≤ H3.length := by
 have hru := h.rx u hu
 obtain ⟨a', c', ou, H2, q1, q2, q3, q4, q5, q6⟩ := own_app T34 hru (ecs := [.int .i64 (v : Int)]) rfl rfl (prot := p) (room := room) (fun id e => Nat.le_trans hp (h.bo u hu id e)) (Nat.le_trans hp hB) (by omega) (L := 1 * 1) rfl (el := [Value.int .i64 (v : Int)].length) rfl
 obtain ⟨id, e3, p1, p2⟩ := own_at T22 h.x3 (range_at r hu)
 cases e3
 have hx2 : Own H2 22 1 x3 (some o3) N ((List.range N).map r) := by
  cases ho : o u with
  | none => rw [ho] at q3; exact h.x3.stay q3 (fun _ _ e => by cases e)
  | some a =>
   rw [ho] at q3 hru
   obtain ⟨_, _, _, wr, _, hH⟩ := hru
   exact h.x3.stayE hH (by decide) q3
 obtain ⟨id, H3, e3, s1, s2, s3, s4, s5⟩ := own_setS T22 hx2 (i := u) (j := 0) hu (vs := [.slice a' ((T u).length + 1) c']) (by simp) rfl (prot := p) (fun id e => by cases e; exact Nat.le_trans hp h.b3)
 cases e3
 obtain ⟨_, _, _, wr3, _, hH3⟩ := hx2
 have hput : putList ((List.range N).map r) (u * 1 + 0) [.slice a' ((T u).length + 1) c'] = (List.range N).map (fun j => if j = u then .slice a' ((T u).length + 1) c' else r j) := by
  rw [Nat.mul_one, Nat.add_zero, put_one _ (by simp; exact hu)]
  apply List.ext_getElem?
  intro j
  by_cases e : j = u
  ·subst e
   rw [List.getElem?_set_self (by simp; exact hu), range_at _ hu, if_pos rfl]
  ·rw [List.getElem?_set_ne (fun h => e h.symm), List.getElem?_map, List.getElem?_map]
   by_cases hj : j < N
   ·rw [List.getElem?_range hj]; simp [e]
   ·rw [List.getElem?_eq_none (by simp; omega)]; rfl
 rw [hput] at s3
 have hil : il (nl (T u)) ++ [Value.int .i64 (v : Int)] = il (nl (T u ++ [v])) := by simp [il, nl]
 rw [hil] at q2
 rw [Nat.mul_one, Nat.add_zero] at s2
 refine ⟨a', c', H2, H3, o3, _, p1, p2, q1, s2, ⟨_, fun j => if j = u then some ou else o j, s3, fun j hj => ?_, h.b3, fun j hj a ha => ?_, ?_⟩, fun q hq => ?_, ?_⟩
 ·by_cases e : j = u
  ·subst e
   rw [if_pos rfl, if_pos rfl]
   unfold addE
   rw [if_pos rfl, List.length_append]
   exact q2.stayE hH3 (by decide) s4
  ·rw [if_neg e, if_neg e]
   unfold addE
   rw [if_neg e]
   exact ((h.rx j hj).stay q3 (fun id e1 e2 => h.dis j u hj hu e id e1 e2)).stayE hH3 (by decide) s4
 ·by_cases e : j = u
  ·subst e
   rw [if_pos rfl] at ha
   cases ha
   cases hou : o j with
   | none => exact Nat.le_trans hB (q5 hou)
   | some a0 => rw [q6 a0 hou]; exact h.bo j hj a0 hou
  ·rw [if_neg e] at ha
   exact h.bo j hj a ha
 ·have hnew : ∀ j, j < N → j ≠ u → o j ≠ some ou := fun j hj hne e => by
   cases ho : o u with
   | none =>
    have h1 := q5 ho
    have h2 := h.rx j hj
    rw [e] at h2
    have := own_lt h2
    omega
   | some a =>
    have h1 := q6 a ho
    exact h.dis j u hj hu hne ou e (by rw [ho, h1])
  intro i j hi hj hne a ha hb
  simp only at ha hb
  by_cases e1 : i = u
  ·have e2 : j ≠ u := fun e2 => hne (by rw [e1, e2])
   rw [if_pos e1] at ha
   rw [if_neg e2] at hb
   cases ha
   exact hnew j hj e2 hb
  ·rw [if_neg e1] at ha
   by_cases e2 : j = u
   ·rw [if_pos e2] at hb
    cases hb
    exact hnew i hi e1 ha
   ·rw [if_neg e2] at hb
    exact h.dis i j hi hj hne a ha hb
 ·have hb3 := h.b3
  rw [s4.2 q (by have := q3.1; omega) (fun e => by have := Option.some.inj e; omega)]
  exact q3.2 q (by omega) (fun e => by have := h.bo u hu q e; omega)
 ·have := q3.1; have := s4.1; omega

end Go.Proofs.Ythjkodbinkiifaa.Am23g
set_option linter.unusedVariables false
open Go Go.Proofs.Ythjkodbinkiifaa.Am
namespace Go.Proofs.Ythjkodbinkiifaa.Am23
section
variable {x0a x8a x16 x17 x21 x24 : Int}
variable {x0ba x0ca x8ba x8ca x9a x11a x15a z4a x3a x4a x41a x44a : Option Addr}
variable {x0bn x0bc x0cn x0cc prot x8bn x8bc x8cn x8cc x9n x9c x11n x11c x15n x15c z4n z4c x1p x1o x1l x3n x3c x4n x4c x20p x20o x20l x28p x28o x28l x33p x33o x33l x40p x40o x40l x41n x41c x44n x44c x45p x45o x45l : Nat}
variable {H H1 H2 H0 H3 : AHeap}
variable {x29 x34 : Bool}
theorem f54_F_0 (rv : Value) (rH : AHeap) (h1 : [vI x0a, vS x0ba x0bn x0bc, vS x0ca x0cn x0cc].all isCell = true) (h2 : getCells (H ++ [vo [vI x0a, vS x0ba x0bn x0bc, vS x0ca x0cn x0cc] 25]) H.length 3 0 3 = some [vI x8a, vS x8ba x8bn x8bc, vS x8ca x8cn x8cc]) (h3 : cI 53 [Value.agg #[vI x8a, vS x8ba x8bn x8bc, vS x8ca x8cn x8cc]] H.length (H ++ [vo [vI x0a, vS x0ba x0bn x0bc, vS x0ca x0cn x0cc] 25]) = some (vS x9a x9n x9c, H1)) (h4 : getCells H1 H.length 3 (0 + 2) 1 = some [vS x11a x11n x11c]) (h5 : 0 ≤ (↑x11n : Int)) (h6 : (↑x11n : Int) = (↑x11n : Int)) (h7 : (↑x11n : Int) ≤ 9223372036854775807) (h8 : (↑24 : Int) * (↑x11n : Int) ≤ 2 ^ 48) (h9 : getCells (H1 ++ [AObj.cells (repCells [vS none 0 0] (↑x11n : Int).toNat) 22 (repCells [vS none 0 0] (↑x11n : Int).toNat).length OMode.row]) H.length 3 (0 + 1) 1 = some [vS x15a x15n x15c]) (h10 : lI a54 0 prot H ([vP H.length 0 3, vS x9a x9n x9c, vS (some ⟨H1.length, 0, some ((↑x11n : Int).toNat * 1)⟩) (↑x11n : Int).toNat (↑x11n : Int).toNat, vS x15a x15n x15c, vI (↑x15n : Int), vI 0], H1 ++ [AObj.cells (repCells [vS none 0 0] (↑x11n : Int).toNat) 22 (repCells [vS none 0 0] (↑x11n : Int).toNat).length OMode.row]) = some (Ex.exit 0, [vS z4a z4n z4c], H2)) (h11 : pfin a54 H [vS z4a z4n z4c] H2 = (rv, rH)) : callInf cfg 54 [.agg #[.int .i64 x0a, .slice x0ba x0bn x0bc, .slice x0ca x0cn x0cc]] prot H = some (rv, rH) :=
 fn_of2 a54 [.e, .v (.agg #[vI x8a, vS x8ba x8bn x8bc, vS x8ca x8cn x8cc]), .r (vS x9a x9n x9c) H1, .v (vS x11a x11n x11c), .e, .e, .v (vS x15a x15n x15c), .e, .lo (.exit 0, [vS z4a z4n z4c], H2)] (ai h1 (ai h2 (ai h3 (ai h4 (ai h5 (ai h6 (ai h7 (ai h8 (ai h9 (ai h10 h11)))))))))) (by kernel_rfl) rfl
theorem f54_L0_0 (h1 : x17 < x16) (h2 : aX 22 (vS x15a x15n x15c) (vI x17) = some (vP x20p x20o x20l)) (h3 : getCells H x20p x20l x20o 1 = some [vI x21]) (h4 : getCells H x1p x1l (x1o + 0) 1 = some [vI x24]) (h5 : x24 ≠ 0) (h6 : Fit .i64 (x17.tdiv x24)) (h7 : aX 23 (vS x3a x3n x3c) (vI (x17.tdiv x24)) = some (vP x28p x28o x28l)) (h8 : getCells H x28p x28l x28o 1 = some [Value.bool x29]) (h9 : x29 = true) (h10 : aX 23 (vS x3a x3n x3c) (vI x21) = some (vP x33p x33o x33l)) (h11 : getCells H x33p x33l x33o 1 = some [Value.bool x34]) (h12 : x34 = true) (h13 : aX 86 (vS x4a x4n x4c) (vI (x17.tdiv x24)) = some (vP x40p x40o x40l)) (h14 : getCells H x40p x40l x40o 1 = some [vS x41a x41n x41c]) (h15 : aappend cfg.P H0.length true 22 22 (vS x41a x41n x41c) (vS (some ⟨H.length, 0, some (1 * 1)⟩) 1 1) (H ++ [wo [vI x21] 3]) = some (vS x44a x44n x44c, H2)) (h16 : aX 86 (vS x4a x4n x4c) (vI (x17.tdiv x24)) = some (vP x45p x45o x45l)) (h17 : 1 = 1) (h18 : setCells H2 H0.length x45p x45l x45o [vS x44a x44n x44c] = some H3) (h19 : Fit .i64 (x17 + 1)) : lpOf cfg a54 0 prot H0 ([.pointer (some ⟨x1p, x1o, some x1l⟩), .slice x3a x3n x3c, .slice x4a x4n x4c, .slice x15a x15n x15c, .int .i64 x16, .int .i64 x17], H) = some (Sum.inl ([Value.pointer (some ⟨x1p, x1o, some x1l⟩), Value.slice x3a x3n x3c, Value.slice x4a x4n x4c, Value.slice x15a x15n x15c, Value.int .i64 x16, Value.int .i64 (x17 + 1)], H3)) :=
 lp_of2 [.e, .b true, .v (vP x20p x20o x20l), .v (vI x21), .v (vI x24), .e, .v (vP x28p x28o x28l), .v (.bool x29), .b true, .b true, .b true, .v (vP x33p x33o x33l), .b true, .v (.bool x34), .b true, .b true, .v (vP x40p x40o x40l), .v (vS x41a x41n x41c), .e, .r (vS x44a x44n x44c) H2, .v (vP x45p x45o x45l), .h H3, .e] (ai (decide_eq_true h1) (ai h2 (ai h3 (ai h4 (ai h5 (ai h6 (ai h7 (ai h8 (ai h9 (ai h9 (ai h9 (ai h10 (ai h9 (ai h11 (ai h9 (ai h12 (ai h13 (ai h14 (ai h15 (ai h16 (ai h17 (ai h18 (ai h19 (Eq.refl (Sum.inl ([vP x1p x1o x1l, vS x3a x3n x3c, vS x4a x4n x4c, vS x15a x15n x15c, vI x16, vI (x17 + 1)], H3) : LS ⊕ LO))))))))))))))))))))))))) (by kernel_rfl)
theorem f54_L0_1 (h1 : x17 < x16) (h2 : aX 22 (vS x15a x15n x15c) (vI x17) = some (vP x20p x20o x20l)) (h3 : getCells H x20p x20l x20o 1 = some [vI x21]) (h4 : getCells H x1p x1l (x1o + 0) 1 = some [vI x24]) (h5 : x24 ≠ 0) (h6 : Fit .i64 (x17.tdiv x24)) (h7 : aX 23 (vS x3a x3n x3c) (vI (x17.tdiv x24)) = some (vP x28p x28o x28l)) (h8 : getCells H x28p x28l x28o 1 = some [Value.bool x29]) (h9 : x29 = true) (h10 : aX 23 (vS x3a x3n x3c) (vI x21) = some (vP x33p x33o x33l)) (h11 : getCells H x33p x33l x33o 1 = some [Value.bool x34]) (h12 : x34 = false) (h13 : Fit .i64 (x17 + 1)) : lpOf cfg a54 0 prot H0 ([.pointer (some ⟨x1p, x1o, some x1l⟩), .slice x3a x3n x3c, .slice x4a x4n x4c, .slice x15a x15n x15c, .int .i64 x16, .int .i64 x17], H) = some (Sum.inl ([Value.pointer (some ⟨x1p, x1o, some x1l⟩), Value.slice x3a x3n x3c, Value.slice x4a x4n x4c, Value.slice x15a x15n x15c, Value.int .i64 x16, Value.int .i64 (x17 + 1)], H)) :=
 lp_of2 [.e, .b true, .v (vP x20p x20o x20l), .v (vI x21), .v (vI x24), .e, .v (vP x28p x28o x28l), .v (.bool x29), .b true, .b true, .b true, .v (vP x33p x33o x33l), .b true, .v (.bool x34), .b true, .b false, .e] (ai (decide_eq_true h1) (ai h2 (ai h3 (ai h4 (ai h5 (ai h6 (ai h7 (ai h8 (ai h9 (ai h9 (ai h9 (ai h10 (ai h9 (ai h11 (ai h9 (ai h12 (ai h13 (Eq.refl (Sum.inl ([vP x1p x1o x1l, vS x3a x3n x3c, vS x4a x4n x4c, vS x15a x15n x15c, vI x16, vI (x17 + 1)], H) : LS ⊕ LO))))))))))))))))))) (by kernel_rfl)
theorem f54_L0_2 (h1 : x17 < x16) (h2 : aX 22 (vS x15a x15n x15c) (vI x17) = some (vP x20p x20o x20l)) (h3 : getCells H x20p x20l x20o 1 = some [vI x21]) (h4 : getCells H x1p x1l (x1o + 0) 1 = some [vI x24]) (h5 : x24 ≠ 0) (h6 : Fit .i64 (x17.tdiv x24)) (h7 : aX 23 (vS x3a x3n x3c) (vI (x17.tdiv x24)) = some (vP x28p x28o x28l)) (h8 : getCells H x28p x28l x28o 1 = some [Value.bool x29]) (h9 : x29 = false) (h10 : Fit .i64 (x17 + 1)) : lpOf cfg a54 0 prot H0 ([.pointer (some ⟨x1p, x1o, some x1l⟩), .slice x3a x3n x3c, .slice x4a x4n x4c, .slice x15a x15n x15c, .int .i64 x16, .int .i64 x17], H) = some (Sum.inl ([Value.pointer (some ⟨x1p, x1o, some x1l⟩), Value.slice x3a x3n x3c, Value.slice x4a x4n x4c, Value.slice x15a x15n x15c, Value.int .i64 x16, Value.int .i64 (x17 + 1)], H)) :=
 lp_of2 [.e, .b true, .v (vP x20p x20o x20l), .v (vI x21), .v (vI x24), .e, .v (vP x28p x28o x28l), .v (.bool x29), .b false, .b false, .b false, .b false, .b false, .b false, .e] (ai (decide_eq_true h1) (ai h2 (ai h3 (ai h4 (ai h5 (ai h6 (ai h7 (ai h8 (ai h9 (ai h9 (ai h9 (ai h9 (ai h9 (ai (Eq.refl false) (ai h10 (Eq.refl (Sum.inl ([vP x1p x1o x1l, vS x3a x3n x3c, vS x4a x4n x4c, vS x15a x15n x15c, vI x16, vI (x17 + 1)], H) : LS ⊕ LO))))))))))))))))) (by kernel_rfl)
theorem f54_L0_3 (h1 : ¬(x17 < x16)) : lpOf cfg a54 0 prot H0 ([.pointer (some ⟨x1p, x1o, some x1l⟩), .slice x3a x3n x3c, .slice x4a x4n x4c, .slice x15a x15n x15c, .int .i64 x16, .int .i64 x17], H) = some (Sum.inr (Ex.exit 0, [Value.slice x4a x4n x4c], H)) :=
 lp_of2 [.e, .b false] (ai (decide_eq_false h1) (Eq.refl (Sum.inr (Ex.exit 0, [vS x4a x4n x4c], H) : LS ⊕ LO))) (by kernel_rfl)
end
end Go.Proofs.Ythjkodbinkiifaa.Am23
namespace Go.Proofs.Ythjkodbinkiifaa.Am23
open Go Go.Proofs.Ythjkodbinkiifaa.Am
open Am23g (addE Out Mine out_start gc_mine Gr nl)
/-! The graph of the states that are on a way to an accepted one. -/
noncomputable def uB (k : Nat) (xs : List Int) (bs : List Bool) : Nat → Bool := fun s => (useL k xs bs).getD s false
def inGo (k : Nat) (xs : List Int) (U : Nat → Bool) : Nat → Nat → (Nat → List Nat) → Nat → List Nat
 | 0, _, T => T
 | d + 1, i, T => inGo k xs U d (i + 1) (if U (i / k) && U (xs.getD i 0).toNat then addE T (i / k) (xs.getD i 0).toNat else T)
theorem inGo_add {k : Nat} {xs : List Int} {U : Nat → Bool} : ∀ (a b i : Nat) (T : Nat → List Nat), inGo k xs U (a + b) i T = inGo k xs U b (i + a) (inGo k xs U a i T)
 | 0, b, i, T => by rw [Nat.zero_add]; rfl
 | a + 1, b, i, T => by rw [show a + 1 + b = (a + b) + 1 by omega, inGo, inGo, inGo_add a b, show i + 1 + a = i + (a + 1) by omega]
/-- A state's targets, of those that are useful. -/
def inL (k : Nat) (xs : List Int) (U : Nat → Bool) (s : Nat) : List Nat := if U s then ((List.range k).map (tgt k xs s)).filter U else []
theorem inGo_row {k : Nat} {xs : List Int} {U : Nat → Bool} (s : Nat) : ∀ (d c : Nat) (T : Nat → List Nat), c + d = k → inGo k xs U d (s * k + c) T = fun j => if j = s then T s ++ (if U s then ((List.range' c d).map (tgt k xs s)).filter U else []) else T j
 | 0, c, T, h => by
  funext j
  rw [inGo]
  by_cases hj : j = s
  ·subst hj; simp
  ·rw [if_neg hj]
 | d + 1, c, T, h => by
  have hdiv : (s * k + c) / k = s := by rw [Nat.mul_comm, Nat.mul_add_div (by omega), Nat.div_eq_of_lt (by omega), Nat.add_zero]
  rw [inGo, hdiv, Nat.add_assoc, inGo_row s d (c + 1) _ (by omega)]
  funext j
  have ht : (xs.getD (s * k + c) 0).toNat = tgt k xs s c := rfl
  rw [ht, List.range'_succ, List.map_cons, List.filter_cons]
  by_cases hj : j = s
  ·subst hj
   rw [if_pos rfl, if_pos rfl]
   cases hU : U j with
   | false => simp
   | true =>
    cases hV : U (tgt k xs j c) with
    | false => simp
    | true => simp [addE]
  ·rw [if_neg hj, if_neg hj]
   split
   ·unfold addE; rw [if_neg hj]
   ·rfl
theorem inGo_all {k : Nat} {xs : List Int} {U : Nat → Bool} : ∀ (d s : Nat) (T : Nat → List Nat), inGo k xs U (d * k) (s * k) T = fun j => if s ≤ j ∧ j < s + d then T j ++ inL k xs U j else T j
 | 0, s, T => by
  funext j
  rw [Nat.zero_mul, inGo, if_neg (by omega)]
 | d + 1, s, T => by
  rw [show (d + 1) * k = k + d * k by rw [Nat.add_mul, Nat.one_mul, Nat.add_comm], inGo_add, show s * k + k = (s + 1) * k by rw [Nat.add_mul, Nat.one_mul], inGo_all d (s + 1)]
  have h := inGo_row (k := k) (xs := xs) (U := U) s k 0 T (by omega)
  rw [Nat.add_zero] at h
  rw [h]
  funext j
  by_cases hj : j = s
  ·subst hj
   have e1 : ¬ (j + 1 ≤ j ∧ j < j + 1 + d) := by omega
   have e2 : j ≤ j ∧ j < j + (d + 1) := by omega
   simp only [if_neg e1, if_pos e2, if_true]
   rw [← List.range_eq_range']; rfl
  ·simp only [if_neg hj]
   by_cases h1 : s + 1 ≤ j ∧ j < s + 1 + d
   ·rw [if_pos h1, if_pos (by omega)]
   ·rw [if_neg h1, if_neg (by omega)]
theorem inL_len (k : Nat) (xs : List Int) (U : Nat → Bool) (s : Nat) : (inL k xs U s).length ≤ k := by
 unfold inL
 split
 ·have := List.length_filter_le U ((List.range k).map (tgt k xs s))
  simpa using this
 ·simp
theorem use_get {k : Nat} {xs : List Int} {bs : List Bool} {s : Nat} (h : s < bs.length) : (bll (useL k xs bs))[s]? = some (.bool (uB k xs bs s)) := by
 have hl : (useL k xs bs).length = bs.length := by simp [useL]
 unfold bll uB
 rw [List.getElem?_map, List.getElem?_eq_getElem (by omega), List.getD_eq_getElem?_getD, List.getElem?_eq_getElem (by omega)]
 rfl
theorem loop54 {k : Nat} {xs : List Int} {bs : List Bool} (hG : Good k xs bs) {H0 : AHeap} {prot : Nat} {vN vA x3 x4 : Value} {o4 : Nat} {Hb : AHeap} (hb : Hb[H0.length]? = some (bx k vN vA)) (hN : Rd Hb 3 1 vN xs.length (il xs)) (hU : Rd Hb 4 1 x3 bs.length (bll (useL k xs bs))) : ∀ (d i : Nat) (T : Nat → List Nat) (r : Nat → Value) (o : Nat → Option Nat) (H : AHeap), i + d = xs.length → Out Hb.length H x4 bs.length r o o4 T → Stay none Hb H → H0.length ≤ Hb.length → (∀ j, (T j).length ≤ i) →
  ∃ r' o' H', lpInf (lpOf cfg a54 0 prot H0) ([.pointer (some ⟨H0.length, 0, some 3⟩), x3, x4, vN, .int .i64 xs.length, .int .i64 i], H) = some (.exit 0, [x4], H') ∧ Out Hb.length H' x4 bs.length r' o' o4 (inGo k xs (uB k xs bs) d i T) ∧ Stay none Hb H'
 | 0, i, T, r, o, H, hi, hO, hst, hle, hl => by
  refine ⟨r, o, H, ?_, hO, hst⟩
  obtain ⟨_, _, rfl⟩ := hN.len
  obtain ⟨_, _, rfl⟩ := hU.len
  obtain ⟨_, _, rfl⟩ := hO.x3.len
  exact lp_last (f54_L0_3 (by omega))
 | d + 1, i, T, r, o, H, hi, hO, hst, hle, hl => by
  have hk := hG.k1
  have hn5 := hG.n5
  have hk8 := hG.k8
  have hxl := hG.nx
  have hb8 : bs.length * k ≤ 512 * 8 := Nat.mul_le_mul hn5 hk8
  have hil : i < xs.length := by omega
  obtain ⟨t, ht, htl⟩ := hG.r i xs[i] (List.getElem?_eq_getElem hil)
  have hs : i / k < bs.length := Nat.div_lt_of_lt_mul (by rw [Nat.mul_comm]; omega)
  obtain ⟨s, hsd⟩ : ∃ s, i / k = s := ⟨_, rfl⟩
  have htn : (xs.getD i 0).toNat = t := by rw [List.getD_eq_getElem?_getD, List.getElem?_eq_getElem hil]; simp [ht]
  have hbH : H[H0.length]? = some (bx k vN vA) := by rw [hst.2 _ (List.getElem?_eq_some_iff.1 hb).1 (by simp)]; exact hb
  obtain ⟨g0, _⟩ := fld3 hbH
  obtain ⟨_, _, n1, n2⟩ := rd_at T22 (hN.stay hst) (il_get hil)
  rw [ht] at n2
  have etd : (i : Int).tdiv (k : Int) = ((s : Nat) : Int) := by rw [← hsd, Int.ofNat_tdiv]
  rw [hsd] at hs
  have hkz : (k : Int) ≠ 0 := by omega
  have fs : Fit .i64 ((i : Int).tdiv (k : Int)) := by rw [etd]; exact fit64 (by omega) (by omega)
  have fi : Fit .i64 ((i : Int) + 1) := fit64 (by omega) (by omega)
  obtain ⟨_, _, u1, u2⟩ := rd_at T23 (hU.stay hst) (use_get hs)
  obtain ⟨_, _, v1, v2⟩ := rd_at T23 (hU.stay hst) (use_get htl)
  rw [← etd] at u1
  have hTs : ∀ j, (T j).length ≤ i + 1 := fun j => by have := hl j; omega
  rw [inGo, hsd, htn]
  cases hus : uB k xs bs s with
  | false =>
   rw [Bool.false_and, if_neg (by simp)]
   obtain ⟨r', o', H', z1, z2, z3⟩ := loop54 hG (prot := prot) hb hN hU d (i + 1) T r o H (by omega) hO hst hle hTs
   refine ⟨r', o', H', ?_, z2, z3⟩
   rw [hus] at u2
   obtain ⟨_, _, rfl⟩ := hN.len
   obtain ⟨_, _, rfl⟩ := hU.len
   obtain ⟨_, _, rfl⟩ := hO.x3.len
   exact lp_next (f54_L0_2 (by omega) n1 n2 g0 hkz fs u1 u2 rfl fi) z1
  | true =>
   rw [hus] at u2
   cases hut : uB k xs bs t with
   | false =>
    rw [Bool.true_and, if_neg (by simp)]
    obtain ⟨r', o', H', z1, z2, z3⟩ := loop54 hG (prot := prot) hb hN hU d (i + 1) T r o H (by omega) hO hst hle hTs
    refine ⟨r', o', H', ?_, z2, z3⟩
    rw [hut] at v2
    obtain ⟨_, _, rfl⟩ := hN.len
    obtain ⟨_, _, rfl⟩ := hU.len
    obtain ⟨_, _, rfl⟩ := hO.x3.len
    exact lp_next (f54_L0_1 (by omega) n1 n2 g0 hkz fs u1 u2 rfl v1 v2 rfl fi) z1
   | true =>
    rw [hut] at v2
    rw [Bool.true_and, if_pos rfl]
    have hls := hl s
    obtain ⟨a', c', H2, H3, id3, L3, p1, p2, p3, p4, ⟨r', o', p5⟩, p6, p7⟩ := Am23g.Out.appP hle hO hs t (room := true) (by omega) hst.1
    have hst3 : Stay none Hb H3 := ⟨p7, fun q hq _ => (p6 q hq).trans (hst.2 q hq (by simp))⟩
    obtain ⟨r2, o2, H', z1, z2, z3⟩ := loop54 hG (prot := prot) hb hN hU d (i + 1) (addE T s t) r' o' H3 (by omega) p5 hst3 hle (fun j => by
     have := hl j
     unfold addE
     split
     ·rename_i e; subst e; rw [List.length_append, List.length_singleton]; omega
     ·omega)
    refine ⟨r2, o2, H', ?_, z2, z3⟩
    have hrl := (hO.rx s hs).len
    rw [← etd] at p1
    have h5 : aindexAddr cfg.P 86 x4 (.int .i64 ((i : Int).tdiv (k : Int))) = some (.pointer (some ⟨id3, s, some L3⟩)) := p1
    obtain ⟨_, _, rfl⟩ := hN.len
    obtain ⟨_, _, rfl⟩ := hU.len
    obtain ⟨_, _, rfl⟩ := hO.x3.len
    obtain ⟨_, _, hre⟩ := hrl
    rw [hre] at p2 p3
    exact lp_next (f54_L0_0 (by omega) n1 n2 g0 hkz fs u1 u2 rfl v1 v2 rfl h5 p2 p3 h5 rfl p4 fi) z1
/-- What inner makes. -/
theorem c54 {k : Nat} {xs : List Int} {bs : List Bool} {vN vA : Value} (hG : Good k xs bs) (prot : Nat) (H : AHeap) (hA : IsA H xs bs vN vA) :
  ∃ x' H', callInf cfg 54 [av k vN vA] prot H = some (x', H') ∧ Mine H.length H' x' bs.length (inL k xs (uB k xs bs)) ∧ Stay none H H' := by
 obtain ⟨HX, hHX⟩ : ∃ HX, HX = H ++ [bx k vN vA] := ⟨_, rfl⟩
 have lX : HX.length = H.length + 1 := by rw [hHX]; simp
 have sX : Stay none H HX := by rw [hHX]; exact Stay.app none H _
 have hb1 := hG.n1
 have hb5 := hG.n5
 have hxl := hG.nx
 have gX : HX[H.length]? = some (bx k vN vA) := by rw [hHX]; exact append_get.1
 obtain ⟨p, c, H1, r1, r2, r3⟩ := c53 hG H.length HX (hA.stay sX)
 obtain ⟨HB, hHB⟩ : ∃ HB, HB = H1 ++ [AObj.cells (repCells [.slice none 0 0] bs.length) 22 (repCells [.slice none 0 0] bs.length).length .row] := ⟨_, rfl⟩
 have sB : Stay none H1 HB := by rw [hHB]; exact Stay.app none H1 _
 have g1 : H1[H.length]? = some (bx k vN vA) := by rw [r3.2 _ (by omega) (by simp)]; exact gX
 have hA1 := (hA.stay sX).stay r3
 have hO := out_start hb1 H1
 rw [← hHB] at hO
 have hlX := r3.1
 obtain ⟨r', o', H2, z1, z2, z3⟩ := loop54 hG (prot := prot) (Hb := H1) g1 hA1.n r2.rd xs.length 0 _ _ _ HB (by omega) hO sB (by omega) (fun j => Nat.zero_le _)
 have hin : ∀ j, j < bs.length → inGo k xs (uB k xs bs) xs.length 0 (fun _ => []) j = inL k xs (uB k xs bs) j := fun j hj => by
  have := congrFun (inGo_all (k := k) (xs := xs) (U := uB k xs bs) bs.length 0 (fun _ => [])) j
  rw [Nat.zero_mul, ← hxl] at this
  rw [this, if_pos (by omega), List.nil_append]
 have hM : Mine H.length H2 (.slice (some ⟨H1.length, 0, some (bs.length * 1)⟩) bs.length bs.length) bs.length (inL k xs (uB k xs bs)) :=
  ⟨.inl ⟨r', o', H1.length, z2.x3, fun j hj => by rw [← hin j hj]; exact z2.rx j hj, by omega, fun j hj a ha => by have := z2.bo j hj a ha; omega, z2.dis⟩⟩
 obtain ⟨x', H', y1, y2, y3⟩ := gc_mine (H := H) hM ((sX.trans r3).trans z3) (ps := []) rfl
 refine ⟨x', H', ?_, y2, y3⟩
 have lN := hA.n.len
 have lA := hA.a.len
 obtain ⟨aN, cN, rfl⟩ := lN
 obtain ⟨aA, cA, rfl⟩ := lA
 obtain ⟨_, _, _, gg3⟩ := fld3 gX
 obtain ⟨_, _, gg2, _⟩ := fld3 g1
 have gB : HB[H.length]? = some (bx k (.slice aN xs.length cN) (.slice aA bs.length cA)) := by rw [sB.2 _ (by omega) (by simp)]; exact g1
 obtain ⟨_, gb1, _, _⟩ := fld3 gB
 subst hHB; subst hHX
 exact f54_F_0 _ _ all3 gg3 r1 gg2 (by omega) rfl (by omega) (by omega) gb1 z1 (by rw [pfin_eq, if_neg (by simp [a54])]; exact y1)
end Go.Proofs.Ythjkodbinkiifaa.Am23
namespace Go.Proofs.Ythjkodbinkiifaa.Am
open Go
/-! Sets of numbers below 512, as eight words. -/
end Go.Proofs.Ythjkodbinkiifaa.Am
namespace Go.Proofs.Ythjkodbinkiifaa.Am
open Go
/-! The lowest bit of a word. -/
/-! ### The numbers of a set, in order -/
def lst (S : Nat → Bool) (n : Nat) : List Nat := (List.range n).filter S
end Go.Proofs.Ythjkodbinkiifaa.Am
namespace Go.Proofs.Ythjkodbinkiifaa.Am
open Go
/-! Heights in a finite order. -/
/-- A height: the longest chain above. -/
structure Ht (A : Nat → Nat → Bool) (n : Nat) (h : Nat → Nat) : Prop where
 ge : ∀ c d, c < n → d < n → d ≠ c → A c d = true → h d + 1 ≤ h c
 ex : ∀ c, c < n → h c = 0 ∨ ∃ d, d < n ∧ d ≠ c ∧ A c d = true ∧ h c = h d + 1
 lt : ∀ c, c < n → h c < n
theorem countP_lt {p q : Nat → Bool} : ∀ {l : List Nat}, (∀ x, p x = true → q x = true) → (∃ d, d ∈ l ∧ q d = true ∧ p d = false) → l.countP p < l.countP q
 | [], _, ⟨d, h, _⟩ => by simp at h
 | a :: l, hs, ⟨d, hm, h1, h2⟩ => by
  have hmono : l.countP p ≤ l.countP q := List.countP_mono_left fun x _ h => hs x h
  rw [List.countP_cons, List.countP_cons]
  rcases List.mem_cons.1 hm with e | e
  ·subst e
   rw [h1, h2]
   simp; omega
  ·have := countP_lt (l := l) hs ⟨d, e, h1, h2⟩
   cases ha : p a with
   | false => cases q a <;> simp <;> omega
   | true => rw [hs a ha]; simp; omega
def upP (A : Nat → Nat → Bool) (c : Nat) : Nat → Bool := fun d => decide (d ≠ c) && A c d
def mxl (f : Nat → Nat) (p : Nat → Bool) : Nat → Nat
 | 0 => 0
 | n + 1 => if p n then max (mxl f p n) (f n + 1) else mxl f p n
theorem mxl_ge {f : Nat → Nat} {p : Nat → Bool} {d : Nat} (hp : p d = true) : ∀ {n : Nat}, d < n → f d + 1 ≤ mxl f p n
 | n + 1, h => by
  rw [mxl]
  by_cases e : d = n
  ·subst e; rw [if_pos hp]; omega
  ·have := mxl_ge (f := f) hp (n := n) (by omega)
   split <;> omega
theorem mxl_ex {f : Nat → Nat} {p : Nat → Bool} : ∀ {n : Nat}, mxl f p n = 0 ∨ ∃ d, d < n ∧ p d = true ∧ mxl f p n = f d + 1
 | 0 => .inl rfl
 | n + 1 => by
  rw [mxl]
  split
  ·rename_i hp
   rcases Nat.le_total (f n + 1) (mxl f p n) with h | h
   ·rw [Nat.max_eq_left h]
    rcases mxl_ex (f := f) (p := p) (n := n) with h1 | ⟨d, h1, h2, h3⟩
    ·exact .inl h1
    ·exact .inr ⟨d, by omega, h2, h3⟩
   ·rw [Nat.max_eq_right h]
    exact .inr ⟨n, by omega, hp, rfl⟩
  ·rcases mxl_ex (f := f) (p := p) (n := n) with h1 | ⟨d, h1, h2, h3⟩
   ·exact .inl h1
   ·exact .inr ⟨d, by omega, h2, h3⟩
theorem mxl_congr {f g : Nat → Nat} {p : Nat → Bool} : ∀ {n : Nat}, (∀ d, d < n → p d = true → f d = g d) → mxl f p n = mxl g p n
 | 0, _ => rfl
 | n + 1, h => by
  rw [mxl, mxl, mxl_congr (n := n) (fun d hd hp => h d (by omega) hp)]
  split
  ·rename_i hp; rw [h n (by omega) hp]
  ·rfl
def hgt (A : Nat → Nat → Bool) (n : Nat) : Nat → Nat → Nat
 | 0, _ => 0
 | k + 1, c => mxl (hgt A n k) (upP A c) n
theorem hgt_ok {A : Nat → Nat → Bool} {n : Nat} (tr : ∀ c d e, A c d = true → A d e = true → A c e = true) (an : ∀ c d, A c d = true → A d c = true → c = d) : Ht A n (hgt A n n) := by
 have cl : ∀ c d, d < n → upP A c d = true → (List.range n).countP (upP A d) < (List.range n).countP (upP A c) := fun c d hd h => by
  simp only [upP, Bool.and_eq_true, decide_eq_true_eq] at h
  refine countP_lt (fun e he => ?_) ⟨d, List.mem_range.2 hd, by simp [upP, h.1, h.2], by simp [upP]⟩
  simp only [upP, Bool.and_eq_true, decide_eq_true_eq] at he ⊢
  refine ⟨fun e0 => ?_, tr c d e h.2 he.2⟩
  subst e0
  exact h.1 (an _ _ he.2 h.2)
 have st : ∀ N c k, (List.range n).countP (upP A c) ≤ N → N ≤ k → hgt A n k c = hgt A n N c := by
  intro N
  induction N with
  | zero =>
   intro c k h1 h2
   cases k with
   | zero => rfl
   | succ k =>
    rw [hgt, hgt]
    rcases mxl_ex (f := hgt A n k) (p := upP A c) (n := n) with h | ⟨d, hd, hp, _⟩
    ·exact h
    ·have := cl c d hd hp; omega
  | succ N ih =>
   intro c k h1 h2
   cases k with
   | zero => omega
   | succ k =>
    rw [hgt, hgt]
    refine mxl_congr fun d hd hp => ?_
    have := cl c d hd hp
    exact ih d k (by omega) (by omega)
 have cn : ∀ c, (List.range n).countP (upP A c) ≤ n := fun c => by
  have := List.countP_le_length (p := upP A c) (l := List.range n)
  rw [List.length_range] at this; exact this
 have fx : ∀ c, hgt A n n c = mxl (hgt A n n) (upP A c) n := fun c => by
  have := st n c (n + 1) (cn c) (by omega)
  rw [← this, hgt]
 have ub : ∀ k c, hgt A n k c ≤ (List.range n).countP (upP A c) := by
  intro k
  induction k with
  | zero => intro c; exact Nat.zero_le _
  | succ k ih =>
   intro c
   rw [hgt]
   rcases mxl_ex (f := hgt A n k) (p := upP A c) (n := n) with h | ⟨d, hd, hp, h⟩
   ·omega
   ·have := cl c d hd hp
    have := ih d
    omega
 refine ⟨fun c d hc hd hne ha => ?_, fun c hc => ?_, fun c hc => ?_⟩
 ·rw [fx c]
  exact mxl_ge (f := hgt A n n) (by simp [upP, hne, ha]) hd
 ·rcases mxl_ex (f := hgt A n n) (p := upP A c) (n := n) with h | ⟨d, hd, hp, h⟩
  ·exact .inl (by rw [fx c]; exact h)
  ·simp only [upP, Bool.and_eq_true, decide_eq_true_eq] at hp
   exact .inr ⟨d, hd, hp.1, hp.2, by rw [fx c]; exact h⟩
 ·have h1 := ub n c
  have h2 : (List.range n).countP (upP A c) < (List.range n).countP (fun _ => true) := countP_lt (fun _ _ => rfl) ⟨c, List.mem_range.2 hc, rfl, by simp [upP]⟩
  have h3 := List.countP_le_length (p := fun _ => true) (l := List.range n)
  rw [List.length_range] at h3
  omega
def topH (h : Nat → Nat) : Nat → Nat
 | 0 => 0
 | n + 1 => max (topH h n) (h n)
theorem topH_le {h : Nat → Nat} {c : Nat} : ∀ {n : Nat}, c < n → h c ≤ topH h n
 | n + 1, hc => by
  rw [topH]
  by_cases e : c = n
  ·subst e; omega
  ·have := topH_le (h := h) (c := c) (n := n) (by omega); omega
theorem topH_ex {h : Nat → Nat} : ∀ {n : Nat}, topH h n = 0 ∨ ∃ c, c < n ∧ topH h n = h c
 | 0 => .inl rfl
 | n + 1 => by
  rw [topH]
  rcases Nat.le_total (h n) (topH h n) with e | e
  ·rw [Nat.max_eq_left e]
   rcases topH_ex (h := h) (n := n) with h1 | ⟨c, h1, h2⟩
   ·exact .inl h1
   ·exact .inr ⟨c, by omega, h2⟩
  ·rw [Nat.max_eq_right e]; exact .inr ⟨n, by omega, rfl⟩
end Go.Proofs.Ythjkodbinkiifaa.Am
set_option linter.unusedVariables false
open Go Go.Proofs.Ythjkodbinkiifaa.Am
namespace Go.Proofs.Ythjkodbinkiifaa.Am23
section
variable {x0 x12 z0 z6 x37 x6 x18 x19 x22 x26 : Int}
variable {x1p x1o x1l x2p x2o x2l x3p x3o x3l prot x9n x9c x11p x11o x11l x14n x14c x16p x16o x16l x17n x17c z1p z1o z1l x29n x29c x33p x33o x33l x34n x34c x36p x36o x36l x21p x21o x21l x24ap x24ao x24al x24bp x24bo x24bl x24cp x24co x24cl : Nat}
variable {H H1 H2 H0 : AHeap}
variable {x9a x14a x17a x29a x34a : Option Addr}
theorem f55_F_0 (h1 : getCells H x1p x1l x1o 1 = some [vS x9a x9n x9c]) (h2 : aX 22 (vS x9a x9n x9c) (vI x0) = some (vP x11p x11o x11l)) (h3 : getCells H x11p x11l x11o 1 = some [vI x12]) (h4 : (x12 == 0) = true) (h5 : getCells H x2p x2l x2o 1 = some [vS x14a x14n x14c]) (h6 : aX 86 (vS x14a x14n x14c) (vI x0) = some (vP x16p x16o x16l)) (h7 : getCells H x16p x16l x16o 1 = some [vS x17a x17n x17c]) (h8 : lI a55 0 prot H ([vI x0, vP x1p x1o x1l, vP x3p x3o x3l, vI 0, vS x17a x17n x17c, vI (↑x17n : Int), vI 0], H) = some (Ex.exit 0, [vI z0, vP z1p z1o z1l, vI z6], H1)) (h9 : getCells H1 z1p z1l z1o 1 = some [vS x29a x29n x29c]) (h10 : Fit .i64 (z6 + 1)) (h11 : aX 22 (vS x29a x29n x29c) (vI z0) = some (vP x33p x33o x33l)) (h12 : 1 = 1) (h13 : setCells H1 prot x33p x33l x33o [vI (z6 + 1)] = some H2) (h14 : getCells H2 z1p z1l z1o 1 = some [vS x34a x34n x34c]) (h15 : aX 22 (vS x34a x34n x34c) (vI z0) = some (vP x36p x36o x36l)) (h16 : getCells H2 x36p x36l x36o 1 = some [vI x37]) : callInf cfg 55 [.int .i64 x0, .pointer (some ⟨x1p, x1o, some x1l⟩), .pointer (some ⟨x2p, x2o, some x2l⟩), .pointer (some ⟨x3p, x3o, some x3l⟩)] prot H = some (Value.int .i64 x37, H2) :=
 fn_of2 a55 [.v (vS x9a x9n x9c), .v (vP x11p x11o x11l), .v (vI x12), .e, .b true, .v (vS x14a x14n x14c), .v (vP x16p x16o x16l), .v (vS x17a x17n x17c), .e, .lo (.exit 0, [vI z0, vP z1p z1o z1l, vI z6], H1), .v (vS x29a x29n x29c), .e, .v (vP x33p x33o x33l), .h H2, .v (vS x34a x34n x34c), .v (vP x36p x36o x36l), .v (vI x37)] (ai h1 (ai h2 (ai h3 (ai h4 (ai h5 (ai h6 (ai h7 (ai h8 (ai h9 (ai h10 (ai h11 (ai h12 (ai h13 (ai h14 (ai h15 (ai h16 (Eq.refl ((vI x37, H2) : Value × AHeap)))))))))))))))))) (by kernel_rfl) rfl
theorem f55_F_1 (h1 : getCells H x1p x1l x1o 1 = some [vS x9a x9n x9c]) (h2 : aX 22 (vS x9a x9n x9c) (vI x0) = some (vP x11p x11o x11l)) (h3 : getCells H x11p x11l x11o 1 = some [vI x12]) (h4 : (x12 == 0) = false) (h5 : getCells H x1p x1l x1o 1 = some [vS x34a x34n x34c]) (h6 : aX 22 (vS x34a x34n x34c) (vI x0) = some (vP x36p x36o x36l)) (h7 : getCells H x36p x36l x36o 1 = some [vI x37]) : callInf cfg 55 [.int .i64 x0, .pointer (some ⟨x1p, x1o, some x1l⟩), .pointer (some ⟨x2p, x2o, some x2l⟩), .pointer (some ⟨x3p, x3o, some x3l⟩)] prot H = some (Value.int .i64 x37, H) :=
 fn_of2 a55 [.v (vS x9a x9n x9c), .v (vP x11p x11o x11l), .v (vI x12), .e, .b false, .v (vS x34a x34n x34c), .v (vP x36p x36o x36l), .v (vI x37)] (ai h1 (ai h2 (ai h3 (ai h4 (ai h5 (ai h6 (ai h7 (Eq.refl ((vI x37, H) : Value × AHeap))))))))) (by kernel_rfl) rfl
theorem f55_L0_0 (h1 : x19 < x18) (h2 : aX 22 (vS x17a x17n x17c) (vI x19) = some (vP x21p x21o x21l)) (h3 : getCells H x21p x21l x21o 1 = some [vI x22]) (h4 : getCells H x3p x3l x3o 1 = some [Value.func (Fn.func 55) #[] #[vP x24ap x24ao x24al, vP x24bp x24bo x24bl, vP x24cp x24co x24cl]]) (h5 : cI 55 [vI x22, vP x24ap x24ao x24al, vP x24bp x24bo x24bl, vP x24cp x24co x24cl] prot H = some (vI x26, H2)) (h6 : Fit .i64 (x19 + 1)) : lpOf cfg a55 0 prot H0 ([.int .i64 x0, .pointer (some ⟨x1p, x1o, some x1l⟩), .pointer (some ⟨x3p, x3o, some x3l⟩), .int .i64 x6, .slice x17a x17n x17c, .int .i64 x18, .int .i64 x19], H) = some (Sum.inl ([Value.int .i64 x0, Value.pointer (some ⟨x1p, x1o, some x1l⟩), Value.pointer (some ⟨x3p, x3o, some x3l⟩), Value.int .i64 (if x26 > x6 then x26 else x6), Value.slice x17a x17n x17c, Value.int .i64 x18, Value.int .i64 (x19 + 1)], H2)) :=
 lp_of2 [.e, .b true, .v (vP x21p x21o x21l), .v (vI x22), .v (.func (.func 55) #[] #[vP x24ap x24ao x24al, vP x24bp x24bo x24bl, vP x24cp x24co x24cl]), .r (vI x26) H2, .e, .e] (ai (decide_eq_true h1) (ai h2 (ai h3 (ai h4 (ai h5 (ai h6 (Eq.refl (Sum.inl ([vI x0, vP x1p x1o x1l, vP x3p x3o x3l, vI (if x26 > x6 then x26 else x6), vS x17a x17n x17c, vI x18, vI (x19 + 1)], H2) : LS ⊕ LO)))))))) (by kernel_rfl)
theorem f55_L0_1 (h1 : ¬(x19 < x18)) : lpOf cfg a55 0 prot H0 ([.int .i64 x0, .pointer (some ⟨x1p, x1o, some x1l⟩), .pointer (some ⟨x3p, x3o, some x3l⟩), .int .i64 x6, .slice x17a x17n x17c, .int .i64 x18, .int .i64 x19], H) = some (Sum.inr (Ex.exit 0, [Value.int .i64 x0, Value.pointer (some ⟨x1p, x1o, some x1l⟩), Value.int .i64 x6], H)) :=
 lp_of2 [.e, .b false] (ai (decide_eq_false h1) (Eq.refl (Sum.inr (Ex.exit 0, [vI x0, vP x1p x1o x1l, vI x6], H) : LS ⊕ LO))) (by kernel_rfl)
end
end Go.Proofs.Ythjkodbinkiifaa.Am23
