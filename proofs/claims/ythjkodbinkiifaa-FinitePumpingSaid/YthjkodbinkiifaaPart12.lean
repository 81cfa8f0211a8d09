/- A part of the proof of a given statement: P23_37, Sp23_C37, P23_16, Sp23_Other, P23_13, Sp23_C13, P23_44, Sp23_C44, AmConv, P23_27, P23_51, P23_68, P23_69, Sp23_C27, AmGrow, P23_17, P23_39, Sp23_C17, P23_4, P23_15, Law23_4, P23_40, P23_18, Sp23_C18, P23_3, Law23_3, P23_21, P23_43, Sp23_C21, P23_58, P23_66, Sp23_C66, P23_28, P23_52, P23_70. No condition. -/
import Derived.Test.YthjkodbinkiifaaPart11
set_option linter.unusedVariables false
open Go Go.Proofs.Ythjkodbinkiifaa.Am
namespace Go.Proofs.Ythjkodbinkiifaa.Am23
theorem f37_F_0 {x0a : Int} {x0ba : Option Addr} {x0bn x0bc : Nat} {x0ca : Option Addr} {x0cn x0cc : Nat} {H : AHeap} {prot : Nat} {x17a : Int} {x17ba : Option Addr} {x17bn x17bc : Nat} {x17ca : Option Addr} {x17cn x17cc : Nat} {x18a : Option Addr} {x18n x18c : Nat} {H1 : AHeap} {x20a : Int} {x20ba : Option Addr} {x20bn x20bc : Nat} {x20ca : Option Addr} {x20cn x20cc : Nat} {x21aa : Option Addr} {x21an x21ac : Nat} {x21ba : Option Addr} {x21bn x21bc : Nat} {H2 : AHeap} {z1p z1o z1l z3p z3o z3l : Nat} {z5a : Option Addr} {z5n z5c : Nat} {z7 : Int} {H3 H4 : AHeap} {wa wb wc : ByteArray} (h1 : [Value.int .i64 x0a, Value.slice x0ba x0bn x0bc, Value.slice x0ca x0cn x0cc].all isCell = true) (h2 : getCells (H ++ [vo [Value.int .i64 x0a, Value.slice x0ba x0bn x0bc, Value.slice x0ca x0cn x0cc] 25] ++ [vo [Value.string { data := { toList := [] } }, Value.string { data := { toList := [] } }, Value.string { data := { toList := [] } }] 29]) (List.length H) [Value.int .i64 x0a, Value.slice x0ba x0bn x0bc, Value.slice x0ca x0cn x0cc].length 0 3 = some [Value.int .i64 x17a, Value.slice x17ba x17bn x17bc, Value.slice x17ca x17cn x17cc]) (h3 : callInf cfg 53 [Value.agg { toList := [Value.int .i64 x17a, Value.slice x17ba x17bn x17bc, Value.slice x17ca x17cn x17cc] }] (List.length H) (H ++ [vo [Value.int .i64 x0a, Value.slice x0ba x0bn x0bc, Value.slice x0ca x0cn x0cc] 25] ++ [vo [Value.string { data := { toList := [] } }, Value.string { data := { toList := [] } }, Value.string { data := { toList := [] } }] 29]) = some (Value.slice x18a x18n x18c, H1)) (h4 : getCells H1 (List.length H) [Value.int .i64 x0a, Value.slice x0ba x0bn x0bc, Value.slice x0ca x0cn x0cc].length 0 3 = some [Value.int .i64 x20a, Value.slice x20ba x20bn x20bc, Value.slice x20ca x20cn x20cc]) (h5 : callInf cfg 65 [Value.agg { toList := [Value.int .i64 x20a, Value.slice x20ba x20bn x20bc, Value.slice x20ca x20cn x20cc] }, Value.int .i64 0, Value.bool true] (List.length H) H1 = some (Value.tuple { toList := [Value.slice x21aa x21an x21ac, Value.slice x21ba x21bn x21bc] }, H2)) (h6 : lpInf (lpOf cfg a37 0 prot H) ([Value.pointer (some ⟨List.length H, 0, some [Value.int .i64 x0a, Value.slice x0ba x0bn x0bc, Value.slice x0ca x0cn x0cc].length⟩), Value.pointer (some { block := List.length (H ++ [vo [Value.int .i64 x0a, Value.slice x0ba x0bn x0bc, Value.slice x0ca x0cn x0cc] 25]), off := 0, spot := some [Value.string { data := { toList := [] } }, Value.string { data := { toList := [] } }, Value.string { data := { toList := [] } }].length }), Value.slice x18a x18n x18c, Value.slice x21aa x21an x21ac, Value.int .i64 (-1), Value.int .i64 (↑x18n : Int), Value.int .i64 0], H2) = some (Ex.exit 0, [Value.pointer (some ⟨z1p, z1o, some z1l⟩), Value.pointer (some ⟨z3p, z3o, some z3l⟩), Value.slice z5a z5n z5c, Value.int .i64 z7], H3)) (h7 : z7 < 0) (h8 : [Value.string { data := { toList := [] } }, Value.string { data := { toList := [] } }, Value.string { data := { toList := [] } }].length = 3) (h9 : setCells H3 (List.length H) z3p z3l z3o [Value.string { data := { toList := [] } }, Value.string { data := { toList := [] } }, Value.string { data := { toList := [] } }] = some H4) (h10 : getCells H4 z3p z3l z3o 3 = some [Value.string wa, Value.string wb, Value.string wc]) : callInf cfg 37 [.agg #[.int .i64 x0a, .slice x0ba x0bn x0bc, .slice x0ca x0cn x0cc]] prot H = some (Value.tuple { toList := [Value.bool true, Value.agg { toList := [Value.string wa, Value.string wb, Value.string wc] }] }, H) :=
  fn_of2 a37 [.e, .e, .v (.agg #[.int .i64 x17a, .slice x17ba x17bn x17bc, .slice x17ca x17cn x17cc]), .r (.slice x18a x18n x18c) H1, .v (.agg #[.int .i64 x20a, .slice x20ba x20bn x20bc, .slice x20ca x20cn x20cc]), .r (.tuple #[.slice x21aa x21an x21ac, .slice x21ba x21bn x21bc]) H2, .e, .lo (.exit 0, [.pointer (some ⟨z1p, z1o, some z1l⟩), .pointer (some ⟨z3p, z3o, some z3l⟩), .slice z5a z5n z5c, .int .i64 z7], H3), .e, .b true, .e, .h H4, .v (.agg #[.string wa, .string wb, .string wc])] (ai h1 (ai h2 (ai h3 (ai h4 (ai h5 (ai h6 (ai (decide_eq_true h7) (ai h8 (ai h9 (ai h10 (Eq.refl ((Value.tuple { toList := [Value.bool true, Value.agg { toList := [Value.string wa, Value.string wb, Value.string wc] }] }, H) : Value × AHeap)))))))))))) (by kernel_rfl) rfl
theorem f37_F_1 {x0a : Int} {x0ba : Option Addr} {x0bn x0bc : Nat} {x0ca : Option Addr} {x0cn x0cc : Nat} {H : AHeap} {prot : Nat} {x17a : Int} {x17ba : Option Addr} {x17bn x17bc : Nat} {x17ca : Option Addr} {x17cn x17cc : Nat} {x18a : Option Addr} {x18n x18c : Nat} {H1 : AHeap} {x20a : Int} {x20ba : Option Addr} {x20bn x20bc : Nat} {x20ca : Option Addr} {x20cn x20cc : Nat} {x21aa : Option Addr} {x21an x21ac : Nat} {x21ba : Option Addr} {x21bn x21bc : Nat} {H2 : AHeap} {z1p z1o z1l z3p z3o z3l : Nat} {z5a : Option Addr} {z5n z5c : Nat} {z7 : Int} {H3 : AHeap} {x90a : Int} {x90ba : Option Addr} {x90bn x90bc : Nat} {x90ca : Option Addr} {x90cn x90cc : Nat} {x92aa : Option Addr} {x92an x92ac : Nat} {x92ba : Option Addr} {x92bn x92bc : Nat} {H4 : AHeap} {x96a : Int} {x96ba : Option Addr} {x96bn x96bc : Nat} {x96ca : Option Addr} {x96cn x96cc : Nat} {x98aa : Option Addr} {x98an x98ac : Nat} {x98ba : Option Addr} {x98bn x98bc : Nat} {H5 : AHeap} {x102a : Option Addr} {x102n x102c z3p_2 z3o_2 z3l_2 : Nat} {z5a_2 : Option Addr} {z5n_2 z5c_2 : Nat} {z7_2 : Int} {z11a : Option Addr} {z11n z11c : Nat} {z13a : Option Addr} {z13n z13c : Nat} {z15 : Int} {H6 : AHeap} {x163p x163o x163l : Nat} {x164 : ByteArray} {x167p x167o x167l : Nat} {x168 : ByteArray} {x171p x171o x171l : Nat} {x172 : ByteArray} {H7 : AHeap} {wa wb wc : ByteArray} (h1 : [Value.int .i64 x0a, Value.slice x0ba x0bn x0bc, Value.slice x0ca x0cn x0cc].all isCell = true) (h2 : getCells (H ++ [vo [Value.int .i64 x0a, Value.slice x0ba x0bn x0bc, Value.slice x0ca x0cn x0cc] 25] ++ [vo [Value.string { data := { toList := [] } }, Value.string { data := { toList := [] } }, Value.string { data := { toList := [] } }] 29]) (List.length H) [Value.int .i64 x0a, Value.slice x0ba x0bn x0bc, Value.slice x0ca x0cn x0cc].length 0 3 = some [Value.int .i64 x17a, Value.slice x17ba x17bn x17bc, Value.slice x17ca x17cn x17cc]) (h3 : callInf cfg 53 [Value.agg { toList := [Value.int .i64 x17a, Value.slice x17ba x17bn x17bc, Value.slice x17ca x17cn x17cc] }] (List.length H) (H ++ [vo [Value.int .i64 x0a, Value.slice x0ba x0bn x0bc, Value.slice x0ca x0cn x0cc] 25] ++ [vo [Value.string { data := { toList := [] } }, Value.string { data := { toList := [] } }, Value.string { data := { toList := [] } }] 29]) = some (Value.slice x18a x18n x18c, H1)) (h4 : getCells H1 (List.length H) [Value.int .i64 x0a, Value.slice x0ba x0bn x0bc, Value.slice x0ca x0cn x0cc].length 0 3 = some [Value.int .i64 x20a, Value.slice x20ba x20bn x20bc, Value.slice x20ca x20cn x20cc]) (h5 : callInf cfg 65 [Value.agg { toList := [Value.int .i64 x20a, Value.slice x20ba x20bn x20bc, Value.slice x20ca x20cn x20cc] }, Value.int .i64 0, Value.bool true] (List.length H) H1 = some (Value.tuple { toList := [Value.slice x21aa x21an x21ac, Value.slice x21ba x21bn x21bc] }, H2)) (h6 : lpInf (lpOf cfg a37 0 prot H) ([Value.pointer (some ⟨List.length H, 0, some [Value.int .i64 x0a, Value.slice x0ba x0bn x0bc, Value.slice x0ca x0cn x0cc].length⟩), Value.pointer (some { block := List.length (H ++ [vo [Value.int .i64 x0a, Value.slice x0ba x0bn x0bc, Value.slice x0ca x0cn x0cc] 25]), off := 0, spot := some [Value.string { data := { toList := [] } }, Value.string { data := { toList := [] } }, Value.string { data := { toList := [] } }].length }), Value.slice x18a x18n x18c, Value.slice x21aa x21an x21ac, Value.int .i64 (-1), Value.int .i64 (↑x18n : Int), Value.int .i64 0], H2) = some (Ex.exit 0, [Value.pointer (some ⟨z1p, z1o, some z1l⟩), Value.pointer (some ⟨z3p, z3o, some z3l⟩), Value.slice z5a z5n z5c, Value.int .i64 z7], H3)) (h7 : ¬(z7 < 0)) (h8 : getCells H3 z1p z1l z1o 3 = some [Value.int .i64 x90a, Value.slice x90ba x90bn x90bc, Value.slice x90ca x90cn x90cc]) (h9 : callInf cfg 65 [Value.agg { toList := [Value.int .i64 x90a, Value.slice x90ba x90bn x90bc, Value.slice x90ca x90cn x90cc] }, Value.int .i64 z7, Value.bool false] (List.length H) H3 = some (Value.tuple { toList := [Value.slice x92aa x92an x92ac, Value.slice x92ba x92bn x92bc] }, H4)) (h10 : getCells H4 z1p z1l z1o 3 = some [Value.int .i64 x96a, Value.slice x96ba x96bn x96bc, Value.slice x96ca x96cn x96cc]) (h11 : callInf cfg 65 [Value.agg { toList := [Value.int .i64 x96a, Value.slice x96ba x96bn x96bc, Value.slice x96ca x96cn x96cc] }, Value.int .i64 z7, Value.bool true] (List.length H) H4 = some (Value.tuple { toList := [Value.slice x98aa x98an x98ac, Value.slice x98ba x98bn x98bc] }, H5)) (h12 : getCells H5 z1p z1l (z1o + 2) 1 = some [Value.slice x102a x102n x102c]) (h13 : lpInf (lpOf cfg a37 1 prot H) ([Value.pointer (some ⟨z1p, z1o, some z1l⟩), Value.pointer (some ⟨z3p, z3o, some z3l⟩), Value.slice z5a z5n z5c, Value.int .i64 z7, Value.slice x92aa x92an x92ac, Value.slice x98aa x98an x98ac, Value.slice x98ba x98bn x98bc, Value.int .i64 (-1), Value.int .i64 (↑x102n : Int), Value.int .i64 0], H5) = some (Ex.exit 2, [Value.pointer (some ⟨z3p_2, z3o_2, some z3l_2⟩), Value.slice z5a_2 z5n_2 z5c_2, Value.int .i64 z7_2, Value.slice z11a z11n z11c, Value.slice z13a z13n z13c, Value.int .i64 z15], H6)) (h14 : aindexAddr cfg.P 43 (Value.slice z5a_2 z5n_2 z5c_2) (Value.int .i64 z7_2) = some (Value.pointer (some ⟨x163p, x163o, some x163l⟩))) (h15 : getCells H6 x163p x163l x163o 1 = some [Value.string x164]) (h16 : aindexAddr cfg.P 43 (Value.slice z11a z11n z11c) (Value.int .i64 z7_2) = some (Value.pointer (some ⟨x167p, x167o, some x167l⟩))) (h17 : getCells H6 x167p x167l x167o 1 = some [Value.string x168]) (h18 : aindexAddr cfg.P 43 (Value.slice z13a z13n z13c) (Value.int .i64 z15) = some (Value.pointer (some ⟨x171p, x171o, some x171l⟩))) (h19 : getCells H6 x171p x171l x171o 1 = some [Value.string x172]) (h20 : [Value.string x164, Value.string x168, Value.string x172].length = 3) (h21 : setCells H6 (List.length H) z3p_2 z3l_2 z3o_2 [Value.string x164, Value.string x168, Value.string x172] = some H7) (h22 : getCells H7 z3p_2 z3l_2 z3o_2 3 = some [Value.string wa, Value.string wb, Value.string wc]) : callInf cfg 37 [.agg #[.int .i64 x0a, .slice x0ba x0bn x0bc, .slice x0ca x0cn x0cc]] prot H = some (Value.tuple { toList := [Value.bool false, Value.agg { toList := [Value.string wa, Value.string wb, Value.string wc] }] }, H) :=
  fn_of2 a37 [.e, .e, .v (.agg #[.int .i64 x17a, .slice x17ba x17bn x17bc, .slice x17ca x17cn x17cc]), .r (.slice x18a x18n x18c) H1, .v (.agg #[.int .i64 x20a, .slice x20ba x20bn x20bc, .slice x20ca x20cn x20cc]), .r (.tuple #[.slice x21aa x21an x21ac, .slice x21ba x21bn x21bc]) H2, .e, .lo (.exit 0, [.pointer (some ⟨z1p, z1o, some z1l⟩), .pointer (some ⟨z3p, z3o, some z3l⟩), .slice z5a z5n z5c, .int .i64 z7], H3), .e, .b false, .v (.agg #[.int .i64 x90a, .slice x90ba x90bn x90bc, .slice x90ca x90cn x90cc]), .r (.tuple #[.slice x92aa x92an x92ac, .slice x92ba x92bn x92bc]) H4, .v (.agg #[.int .i64 x96a, .slice x96ba x96bn x96bc, .slice x96ca x96cn x96cc]), .r (.tuple #[.slice x98aa x98an x98ac, .slice x98ba x98bn x98bc]) H5, .v (.slice x102a x102n x102c), .e, .lo (.exit 2, [.pointer (some ⟨z3p_2, z3o_2, some z3l_2⟩), .slice z5a_2 z5n_2 z5c_2, .int .i64 z7_2, .slice z11a z11n z11c, .slice z13a z13n z13c, .int .i64 z15], H6), .v (.pointer (some ⟨x163p, x163o, some x163l⟩)), .v (.string x164), .v (.pointer (some ⟨x167p, x167o, some x167l⟩)), .v (.string x168), .v (.pointer (some ⟨x171p, x171o, some x171l⟩)), .v (.string x172), .e, .h H7, .v (.agg #[.string wa, .string wb, .string wc])] (ai h1 (ai h2 (ai h3 (ai h4 (ai h5 (ai h6 (ai (decide_eq_false h7) (ai h8 (ai h9 (ai h10 (ai h11 (ai h12 (ai h13 (ai h14 (ai h15 (ai h16 (ai h17 (ai h18 (ai h19 (ai h20 (ai h21 (ai h22 (Eq.refl ((Value.tuple { toList := [Value.bool false, Value.agg { toList := [Value.string wa, Value.string wb, Value.string wc] }] }, H) : Value × AHeap)))))))))))))))))))))))) (by kernel_rfl) rfl
theorem f37_L0_0 {x1p x1o x1l x3p x3o x3l : Nat} {x4a : Option Addr} {x4n x4c : Nat} {x5a : Option Addr} {x5n x5c : Nat} {x7 x25 x26 : Int} {H0 : AHeap} {prot : Nat} {H : AHeap} {x31p x31o x31l : Nat} {x32 : Bool} {x35a : Int} {x35ba : Option Addr} {x35bn x35bc : Nat} {x35ca : Option Addr} {x35cn x35cc : Nat} {x37aa : Option Addr} {x37an x37ac : Nat} {x37ba : Option Addr} {x37bn x37bc : Nat} {H2 : AHeap} {x42p x42o x42l : Nat} {x43 : Bool} (h1 : x26 < x25) (h2 : aindexAddr cfg.P 23 (Value.slice x4a x4n x4c) (Value.int .i64 x26) = some (Value.pointer (some ⟨x31p, x31o, some x31l⟩))) (h3 : getCells H x31p x31l x31o 1 = some [Value.bool x32]) (h4 : (!x32) = false) (h5 : getCells H x1p x1l x1o 3 = some [Value.int .i64 x35a, Value.slice x35ba x35bn x35bc, Value.slice x35ca x35cn x35cc]) (h6 : callInf cfg 65 [Value.agg { toList := [Value.int .i64 x35a, Value.slice x35ba x35bn x35bc, Value.slice x35ca x35cn x35cc] }, Value.int .i64 x26, Value.bool false] (List.length H0) H = some (Value.tuple { toList := [Value.slice x37aa x37an x37ac, Value.slice x37ba x37bn x37bc] }, H2)) (h7 : aindexAddr cfg.P 23 (Value.slice x37ba x37bn x37bc) (Value.int .i64 x26) = some (Value.pointer (some ⟨x42p, x42o, some x42l⟩))) (h8 : getCells H2 x42p x42l x42o 1 = some [Value.bool x43]) (h9 : (!x43) = false) (h10 : x7 < 0) (h11 : Fit .i64 (x26 + 1)) : lpOf cfg a37 0 prot H0 ([.pointer (some ⟨x1p, x1o, some x1l⟩), .pointer (some ⟨x3p, x3o, some x3l⟩), .slice x4a x4n x4c, .slice x5a x5n x5c, .int .i64 x7, .int .i64 x25, .int .i64 x26], H) = some (Sum.inl ([Value.pointer (some ⟨x1p, x1o, some x1l⟩), Value.pointer (some ⟨x3p, x3o, some x3l⟩), Value.slice x4a x4n x4c, Value.slice x5a x5n x5c, Value.int .i64 x26, Value.int .i64 x25, Value.int .i64 (x26 + 1)], H2)) :=
  lp_of2 [.e, .b true, .v (.pointer (some ⟨x31p, x31o, some x31l⟩)), .v (.bool x32), .e, .b false, .v (.agg #[.int .i64 x35a, .slice x35ba x35bn x35bc, .slice x35ca x35cn x35cc]), .r (.tuple #[.slice x37aa x37an x37ac, .slice x37ba x37bn x37bc]) H2, .v (.pointer (some ⟨x42p, x42o, some x42l⟩)), .v (.bool x43), .e, .b false, .e, .b true, .b true, .b true, .b true, .b true, .b true, .b true, .b true, .b true, .b true, .b true, .b true, .b true, .b true, .b true, .b true, .b true, .b true, .b true, .b true, .b true, .b true, .b true, .b true, .b true, .b true, .b true, .e] (ai (decide_eq_true h1) (ai h2 (ai h3 (ai h4 (ai h5 (ai h6 (ai h7 (ai h8 (ai h9 (ai (decide_eq_true h10) (ai (decide_eq_true h10) (ai (decide_eq_true h10) (ai (decide_eq_true h10) (ai (decide_eq_true h10) (ai (decide_eq_true h10) (ai (decide_eq_true h10) (ai (decide_eq_true h10) (ai (decide_eq_true h10) (ai (decide_eq_true h10) (ai (decide_eq_true h10) (ai (decide_eq_true h10) (ai (Eq.refl true) (ai (Eq.refl true) (ai (Eq.refl true) (ai (Eq.refl true) (ai (Eq.refl true) (ai (Eq.refl true) (ai (Eq.refl true) (ai (Eq.refl true) (ai (Eq.refl true) (ai (Eq.refl true) (ai (Eq.refl true) (ai (Eq.refl true) (ai (Eq.refl true) (ai (Eq.refl true) (ai (Eq.refl true) (ai h11 (Eq.refl (Sum.inl ([Value.pointer (some ⟨x1p, x1o, some x1l⟩), Value.pointer (some ⟨x3p, x3o, some x3l⟩), Value.slice x4a x4n x4c, Value.slice x5a x5n x5c, Value.int .i64 x26, Value.int .i64 x25, Value.int .i64 (x26 + 1)], H2) : LS ⊕ LO))))))))))))))))))))))))))))))))))))))) (by kernel_rfl)
theorem f37_L0_1 {x1p x1o x1l x3p x3o x3l : Nat} {x4a : Option Addr} {x4n x4c : Nat} {x5a : Option Addr} {x5n x5c : Nat} {x7 x25 x26 : Int} {H0 : AHeap} {prot : Nat} {H : AHeap} {x31p x31o x31l : Nat} {x32 : Bool} {x35a : Int} {x35ba : Option Addr} {x35bn x35bc : Nat} {x35ca : Option Addr} {x35cn x35cc : Nat} {x37aa : Option Addr} {x37an x37ac : Nat} {x37ba : Option Addr} {x37bn x37bc : Nat} {H2 : AHeap} {x42p x42o x42l : Nat} {x43 : Bool} {x50p x50o x50l : Nat} {x51 : ByteArray} {x55p x55o x55l : Nat} {x56 : ByteArray} (h1 : x26 < x25) (h2 : aindexAddr cfg.P 23 (Value.slice x4a x4n x4c) (Value.int .i64 x26) = some (Value.pointer (some ⟨x31p, x31o, some x31l⟩))) (h3 : getCells H x31p x31l x31o 1 = some [Value.bool x32]) (h4 : (!x32) = false) (h5 : getCells H x1p x1l x1o 3 = some [Value.int .i64 x35a, Value.slice x35ba x35bn x35bc, Value.slice x35ca x35cn x35cc]) (h6 : callInf cfg 65 [Value.agg { toList := [Value.int .i64 x35a, Value.slice x35ba x35bn x35bc, Value.slice x35ca x35cn x35cc] }, Value.int .i64 x26, Value.bool false] (List.length H0) H = some (Value.tuple { toList := [Value.slice x37aa x37an x37ac, Value.slice x37ba x37bn x37bc] }, H2)) (h7 : aindexAddr cfg.P 23 (Value.slice x37ba x37bn x37bc) (Value.int .i64 x26) = some (Value.pointer (some ⟨x42p, x42o, some x42l⟩))) (h8 : getCells H2 x42p x42l x42o 1 = some [Value.bool x43]) (h9 : (!x43) = false) (h10 : ¬(x7 < 0)) (h11 : aindexAddr cfg.P 43 (Value.slice x5a x5n x5c) (Value.int .i64 x26) = some (Value.pointer (some ⟨x50p, x50o, some x50l⟩))) (h12 : getCells H2 x50p x50l x50o 1 = some [Value.string x51]) (h13 : aindexAddr cfg.P 43 (Value.slice x5a x5n x5c) (Value.int .i64 x7) = some (Value.pointer (some ⟨x55p, x55o, some x55l⟩))) (h14 : getCells H2 x55p x55l x55o 1 = some [Value.string x56]) (h15 : (↑x51.size : Int) < (↑x56.size : Int)) (h16 : Fit .i64 (x26 + 1)) : lpOf cfg a37 0 prot H0 ([.pointer (some ⟨x1p, x1o, some x1l⟩), .pointer (some ⟨x3p, x3o, some x3l⟩), .slice x4a x4n x4c, .slice x5a x5n x5c, .int .i64 x7, .int .i64 x25, .int .i64 x26], H) = some (Sum.inl ([Value.pointer (some ⟨x1p, x1o, some x1l⟩), Value.pointer (some ⟨x3p, x3o, some x3l⟩), Value.slice x4a x4n x4c, Value.slice x5a x5n x5c, Value.int .i64 x26, Value.int .i64 x25, Value.int .i64 (x26 + 1)], H2)) :=
  lp_of2 [.e, .b true, .v (.pointer (some ⟨x31p, x31o, some x31l⟩)), .v (.bool x32), .e, .b false, .v (.agg #[.int .i64 x35a, .slice x35ba x35bn x35bc, .slice x35ca x35cn x35cc]), .r (.tuple #[.slice x37aa x37an x37ac, .slice x37ba x37bn x37bc]) H2, .v (.pointer (some ⟨x42p, x42o, some x42l⟩)), .v (.bool x43), .e, .b false, .e, .b false, .b false, .b false, .v (.pointer (some ⟨x50p, x50o, some x50l⟩)), .b false, .v (.string x51), .b false, .e, .b false, .b false, .b false, .v (.pointer (some ⟨x55p, x55o, some x55l⟩)), .b false, .v (.string x56), .b false, .e, .b false, .e, .b false, .b true, .b true, .b true, .b true, .b true, .b true, .b true, .b true, .b true, .b true, .b true, .b true, .b true, .b true, .b true, .e] (ai (decide_eq_true h1) (ai h2 (ai h3 (ai h4 (ai h5 (ai h6 (ai h7 (ai h8 (ai h9 (ai (decide_eq_false h10) (ai (decide_eq_false h10) (ai (decide_eq_false h10) (ai h11 (ai (decide_eq_false h10) (ai h12 (ai (decide_eq_false h10) (ai (decide_eq_false h10) (ai (decide_eq_false h10) (ai (decide_eq_false h10) (ai h13 (ai (decide_eq_false h10) (ai h14 (ai (decide_eq_false h10) (ai (decide_eq_false h10) (ai (decide_eq_false h10) (ai (decide_eq_true h15) (ai (decide_eq_true h15) (ai (decide_eq_true h15) (ai (decide_eq_true h15) (ai (decide_eq_true h15) (ai (decide_eq_true h15) (ai (decide_eq_true h15) (ai (decide_eq_true h15) (ai (decide_eq_true h15) (ai (decide_eq_true h15) (ai (decide_eq_true h15) (ai (decide_eq_true h15) (ai (decide_eq_true h15) (ai (decide_eq_true h15) (ai (Eq.refl true) (ai h16 (Eq.refl (Sum.inl ([Value.pointer (some ⟨x1p, x1o, some x1l⟩), Value.pointer (some ⟨x3p, x3o, some x3l⟩), Value.slice x4a x4n x4c, Value.slice x5a x5n x5c, Value.int .i64 x26, Value.int .i64 x25, Value.int .i64 (x26 + 1)], H2) : LS ⊕ LO))))))))))))))))))))))))))))))))))))))))))) (by kernel_rfl)
theorem f37_L0_2 {x1p x1o x1l x3p x3o x3l : Nat} {x4a : Option Addr} {x4n x4c : Nat} {x5a : Option Addr} {x5n x5c : Nat} {x7 x25 x26 : Int} {H0 : AHeap} {prot : Nat} {H : AHeap} {x31p x31o x31l : Nat} {x32 : Bool} {x35a : Int} {x35ba : Option Addr} {x35bn x35bc : Nat} {x35ca : Option Addr} {x35cn x35cc : Nat} {x37aa : Option Addr} {x37an x37ac : Nat} {x37ba : Option Addr} {x37bn x37bc : Nat} {H2 : AHeap} {x42p x42o x42l : Nat} {x43 : Bool} {x50p x50o x50l : Nat} {x51 : ByteArray} {x55p x55o x55l : Nat} {x56 : ByteArray} {x63p x63o x63l : Nat} {x64 : ByteArray} {x68p x68o x68l : Nat} {x69 : ByteArray} {x75p x75o x75l : Nat} {x76 : ByteArray} {x79p x79o x79l : Nat} {x80 : ByteArray} (h1 : x26 < x25) (h2 : aindexAddr cfg.P 23 (Value.slice x4a x4n x4c) (Value.int .i64 x26) = some (Value.pointer (some ⟨x31p, x31o, some x31l⟩))) (h3 : getCells H x31p x31l x31o 1 = some [Value.bool x32]) (h4 : (!x32) = false) (h5 : getCells H x1p x1l x1o 3 = some [Value.int .i64 x35a, Value.slice x35ba x35bn x35bc, Value.slice x35ca x35cn x35cc]) (h6 : callInf cfg 65 [Value.agg { toList := [Value.int .i64 x35a, Value.slice x35ba x35bn x35bc, Value.slice x35ca x35cn x35cc] }, Value.int .i64 x26, Value.bool false] (List.length H0) H = some (Value.tuple { toList := [Value.slice x37aa x37an x37ac, Value.slice x37ba x37bn x37bc] }, H2)) (h7 : aindexAddr cfg.P 23 (Value.slice x37ba x37bn x37bc) (Value.int .i64 x26) = some (Value.pointer (some ⟨x42p, x42o, some x42l⟩))) (h8 : getCells H2 x42p x42l x42o 1 = some [Value.bool x43]) (h9 : (!x43) = false) (h10 : ¬(x7 < 0)) (h11 : aindexAddr cfg.P 43 (Value.slice x5a x5n x5c) (Value.int .i64 x26) = some (Value.pointer (some ⟨x50p, x50o, some x50l⟩))) (h12 : getCells H2 x50p x50l x50o 1 = some [Value.string x51]) (h13 : aindexAddr cfg.P 43 (Value.slice x5a x5n x5c) (Value.int .i64 x7) = some (Value.pointer (some ⟨x55p, x55o, some x55l⟩))) (h14 : getCells H2 x55p x55l x55o 1 = some [Value.string x56]) (h15 : ¬((↑x51.size : Int) < (↑x56.size : Int))) (h16 : aindexAddr cfg.P 43 (Value.slice x5a x5n x5c) (Value.int .i64 x26) = some (Value.pointer (some ⟨x63p, x63o, some x63l⟩))) (h17 : getCells H2 x63p x63l x63o 1 = some [Value.string x64]) (h18 : aindexAddr cfg.P 43 (Value.slice x5a x5n x5c) (Value.int .i64 x7) = some (Value.pointer (some ⟨x68p, x68o, some x68l⟩))) (h19 : getCells H2 x68p x68l x68o 1 = some [Value.string x69]) (h20 : ((↑x64.size : Int) == (↑x69.size : Int)) = true) (h21 : aindexAddr cfg.P 43 (Value.slice x5a x5n x5c) (Value.int .i64 x26) = some (Value.pointer (some ⟨x75p, x75o, some x75l⟩))) (h22 : getCells H2 x75p x75l x75o 1 = some [Value.string x76]) (h23 : aindexAddr cfg.P 43 (Value.slice x5a x5n x5c) (Value.int .i64 x7) = some (Value.pointer (some ⟨x79p, x79o, some x79l⟩))) (h24 : getCells H2 x79p x79l x79o 1 = some [Value.string x80]) (h25 : Op.bytesLess x76.toList x80.toList = true) (h26 : Fit .i64 (x26 + 1)) : lpOf cfg a37 0 prot H0 ([.pointer (some ⟨x1p, x1o, some x1l⟩), .pointer (some ⟨x3p, x3o, some x3l⟩), .slice x4a x4n x4c, .slice x5a x5n x5c, .int .i64 x7, .int .i64 x25, .int .i64 x26], H) = some (Sum.inl ([Value.pointer (some ⟨x1p, x1o, some x1l⟩), Value.pointer (some ⟨x3p, x3o, some x3l⟩), Value.slice x4a x4n x4c, Value.slice x5a x5n x5c, Value.int .i64 x26, Value.int .i64 x25, Value.int .i64 (x26 + 1)], H2)) :=
  lp_of2 [.e, .b true, .v (.pointer (some ⟨x31p, x31o, some x31l⟩)), .v (.bool x32), .e, .b false, .v (.agg #[.int .i64 x35a, .slice x35ba x35bn x35bc, .slice x35ca x35cn x35cc]), .r (.tuple #[.slice x37aa x37an x37ac, .slice x37ba x37bn x37bc]) H2, .v (.pointer (some ⟨x42p, x42o, some x42l⟩)), .v (.bool x43), .e, .b false, .e, .b false, .b false, .b false, .v (.pointer (some ⟨x50p, x50o, some x50l⟩)), .b false, .v (.string x51), .b false, .e, .b false, .b false, .b false, .v (.pointer (some ⟨x55p, x55o, some x55l⟩)), .b false, .v (.string x56), .b false, .e, .b false, .e, .b false, .b false, .b false, .b false, .v (.pointer (some ⟨x63p, x63o, some x63l⟩)), .b false, .v (.string x64), .b false, .e, .b false, .b false, .b false, .v (.pointer (some ⟨x68p, x68o, some x68l⟩)), .b false, .v (.string x69), .b false, .e, .b false, .e, .b false, .b true, .b true, .b true, .v (.pointer (some ⟨x75p, x75o, some x75l⟩)), .b true, .v (.string x76), .b true, .b true, .b true, .v (.pointer (some ⟨x79p, x79o, some x79l⟩)), .b true, .v (.string x80), .b true, .e, .b false, .b true, .b false, .b true, .e] (ai (decide_eq_true h1) (ai h2 (ai h3 (ai h4 (ai h5 (ai h6 (ai h7 (ai h8 (ai h9 (ai (decide_eq_false h10) (ai (decide_eq_false h10) (ai (decide_eq_false h10) (ai h11 (ai (decide_eq_false h10) (ai h12 (ai (decide_eq_false h10) (ai (decide_eq_false h10) (ai (decide_eq_false h10) (ai (decide_eq_false h10) (ai h13 (ai (decide_eq_false h10) (ai h14 (ai (decide_eq_false h10) (ai (decide_eq_false h10) (ai (decide_eq_false h10) (ai (decide_eq_false h15) (ai (decide_eq_false h15) (ai (decide_eq_false h15) (ai h16 (ai (decide_eq_false h15) (ai h17 (ai (decide_eq_false h15) (ai (decide_eq_false h15) (ai (decide_eq_false h15) (ai (decide_eq_false h15) (ai h18 (ai (decide_eq_false h15) (ai h19 (ai (decide_eq_false h15) (ai (decide_eq_false h15) (ai (decide_eq_false h15) (ai h20 (ai h20 (ai h20 (ai h21 (ai h20 (ai h22 (ai h20 (ai h20 (ai h20 (ai h23 (ai h20 (ai h24 (ai h20 (ai (decide_eq_false h15) (ai h20 (ai (decide_eq_false h15) (ai h25 (ai h26 (Eq.refl (Sum.inl ([Value.pointer (some ⟨x1p, x1o, some x1l⟩), Value.pointer (some ⟨x3p, x3o, some x3l⟩), Value.slice x4a x4n x4c, Value.slice x5a x5n x5c, Value.int .i64 x26, Value.int .i64 x25, Value.int .i64 (x26 + 1)], H2) : LS ⊕ LO))))))))))))))))))))))))))))))))))))))))))))))))))))))))))))) (by kernel_rfl)
theorem f37_L0_3 {x1p x1o x1l x3p x3o x3l : Nat} {x4a : Option Addr} {x4n x4c : Nat} {x5a : Option Addr} {x5n x5c : Nat} {x7 x25 x26 : Int} {H0 : AHeap} {prot : Nat} {H : AHeap} {x31p x31o x31l : Nat} {x32 : Bool} {x35a : Int} {x35ba : Option Addr} {x35bn x35bc : Nat} {x35ca : Option Addr} {x35cn x35cc : Nat} {x37aa : Option Addr} {x37an x37ac : Nat} {x37ba : Option Addr} {x37bn x37bc : Nat} {H2 : AHeap} {x42p x42o x42l : Nat} {x43 : Bool} {x50p x50o x50l : Nat} {x51 : ByteArray} {x55p x55o x55l : Nat} {x56 : ByteArray} {x63p x63o x63l : Nat} {x64 : ByteArray} {x68p x68o x68l : Nat} {x69 : ByteArray} {x75p x75o x75l : Nat} {x76 : ByteArray} {x79p x79o x79l : Nat} {x80 : ByteArray} (h1 : x26 < x25) (h2 : aindexAddr cfg.P 23 (Value.slice x4a x4n x4c) (Value.int .i64 x26) = some (Value.pointer (some ⟨x31p, x31o, some x31l⟩))) (h3 : getCells H x31p x31l x31o 1 = some [Value.bool x32]) (h4 : (!x32) = false) (h5 : getCells H x1p x1l x1o 3 = some [Value.int .i64 x35a, Value.slice x35ba x35bn x35bc, Value.slice x35ca x35cn x35cc]) (h6 : callInf cfg 65 [Value.agg { toList := [Value.int .i64 x35a, Value.slice x35ba x35bn x35bc, Value.slice x35ca x35cn x35cc] }, Value.int .i64 x26, Value.bool false] (List.length H0) H = some (Value.tuple { toList := [Value.slice x37aa x37an x37ac, Value.slice x37ba x37bn x37bc] }, H2)) (h7 : aindexAddr cfg.P 23 (Value.slice x37ba x37bn x37bc) (Value.int .i64 x26) = some (Value.pointer (some ⟨x42p, x42o, some x42l⟩))) (h8 : getCells H2 x42p x42l x42o 1 = some [Value.bool x43]) (h9 : (!x43) = false) (h10 : ¬(x7 < 0)) (h11 : aindexAddr cfg.P 43 (Value.slice x5a x5n x5c) (Value.int .i64 x26) = some (Value.pointer (some ⟨x50p, x50o, some x50l⟩))) (h12 : getCells H2 x50p x50l x50o 1 = some [Value.string x51]) (h13 : aindexAddr cfg.P 43 (Value.slice x5a x5n x5c) (Value.int .i64 x7) = some (Value.pointer (some ⟨x55p, x55o, some x55l⟩))) (h14 : getCells H2 x55p x55l x55o 1 = some [Value.string x56]) (h15 : ¬((↑x51.size : Int) < (↑x56.size : Int))) (h16 : aindexAddr cfg.P 43 (Value.slice x5a x5n x5c) (Value.int .i64 x26) = some (Value.pointer (some ⟨x63p, x63o, some x63l⟩))) (h17 : getCells H2 x63p x63l x63o 1 = some [Value.string x64]) (h18 : aindexAddr cfg.P 43 (Value.slice x5a x5n x5c) (Value.int .i64 x7) = some (Value.pointer (some ⟨x68p, x68o, some x68l⟩))) (h19 : getCells H2 x68p x68l x68o 1 = some [Value.string x69]) (h20 : ((↑x64.size : Int) == (↑x69.size : Int)) = true) (h21 : aindexAddr cfg.P 43 (Value.slice x5a x5n x5c) (Value.int .i64 x26) = some (Value.pointer (some ⟨x75p, x75o, some x75l⟩))) (h22 : getCells H2 x75p x75l x75o 1 = some [Value.string x76]) (h23 : aindexAddr cfg.P 43 (Value.slice x5a x5n x5c) (Value.int .i64 x7) = some (Value.pointer (some ⟨x79p, x79o, some x79l⟩))) (h24 : getCells H2 x79p x79l x79o 1 = some [Value.string x80]) (h25 : Op.bytesLess x76.toList x80.toList = false) (h26 : Fit .i64 (x26 + 1)) : lpOf cfg a37 0 prot H0 ([.pointer (some ⟨x1p, x1o, some x1l⟩), .pointer (some ⟨x3p, x3o, some x3l⟩), .slice x4a x4n x4c, .slice x5a x5n x5c, .int .i64 x7, .int .i64 x25, .int .i64 x26], H) = some (Sum.inl ([Value.pointer (some ⟨x1p, x1o, some x1l⟩), Value.pointer (some ⟨x3p, x3o, some x3l⟩), Value.slice x4a x4n x4c, Value.slice x5a x5n x5c, Value.int .i64 x7, Value.int .i64 x25, Value.int .i64 (x26 + 1)], H2)) :=
  lp_of2 [.e, .b true, .v (.pointer (some ⟨x31p, x31o, some x31l⟩)), .v (.bool x32), .e, .b false, .v (.agg #[.int .i64 x35a, .slice x35ba x35bn x35bc, .slice x35ca x35cn x35cc]), .r (.tuple #[.slice x37aa x37an x37ac, .slice x37ba x37bn x37bc]) H2, .v (.pointer (some ⟨x42p, x42o, some x42l⟩)), .v (.bool x43), .e, .b false, .e, .b false, .b false, .b false, .v (.pointer (some ⟨x50p, x50o, some x50l⟩)), .b false, .v (.string x51), .b false, .e, .b false, .b false, .b false, .v (.pointer (some ⟨x55p, x55o, some x55l⟩)), .b false, .v (.string x56), .b false, .e, .b false, .e, .b false, .b false, .b false, .b false, .v (.pointer (some ⟨x63p, x63o, some x63l⟩)), .b false, .v (.string x64), .b false, .e, .b false, .b false, .b false, .v (.pointer (some ⟨x68p, x68o, some x68l⟩)), .b false, .v (.string x69), .b false, .e, .b false, .e, .b false, .b true, .b true, .b true, .v (.pointer (some ⟨x75p, x75o, some x75l⟩)), .b true, .v (.string x76), .b true, .b true, .b true, .v (.pointer (some ⟨x79p, x79o, some x79l⟩)), .b true, .v (.string x80), .b true, .e, .b false, .b true, .b false, .b false, .e] (ai (decide_eq_true h1) (ai h2 (ai h3 (ai h4 (ai h5 (ai h6 (ai h7 (ai h8 (ai h9 (ai (decide_eq_false h10) (ai (decide_eq_false h10) (ai (decide_eq_false h10) (ai h11 (ai (decide_eq_false h10) (ai h12 (ai (decide_eq_false h10) (ai (decide_eq_false h10) (ai (decide_eq_false h10) (ai (decide_eq_false h10) (ai h13 (ai (decide_eq_false h10) (ai h14 (ai (decide_eq_false h10) (ai (decide_eq_false h10) (ai (decide_eq_false h10) (ai (decide_eq_false h15) (ai (decide_eq_false h15) (ai (decide_eq_false h15) (ai h16 (ai (decide_eq_false h15) (ai h17 (ai (decide_eq_false h15) (ai (decide_eq_false h15) (ai (decide_eq_false h15) (ai (decide_eq_false h15) (ai h18 (ai (decide_eq_false h15) (ai h19 (ai (decide_eq_false h15) (ai (decide_eq_false h15) (ai (decide_eq_false h15) (ai h20 (ai h20 (ai h20 (ai h21 (ai h20 (ai h22 (ai h20 (ai h20 (ai h20 (ai h23 (ai h20 (ai h24 (ai h20 (ai (decide_eq_false h15) (ai h20 (ai (decide_eq_false h15) (ai h25 (ai h26 (Eq.refl (Sum.inl ([Value.pointer (some ⟨x1p, x1o, some x1l⟩), Value.pointer (some ⟨x3p, x3o, some x3l⟩), Value.slice x4a x4n x4c, Value.slice x5a x5n x5c, Value.int .i64 x7, Value.int .i64 x25, Value.int .i64 (x26 + 1)], H2) : LS ⊕ LO))))))))))))))))))))))))))))))))))))))))))))))))))))))))))))) (by kernel_rfl)
theorem f37_L0_4 {x1p x1o x1l x3p x3o x3l : Nat} {x4a : Option Addr} {x4n x4c : Nat} {x5a : Option Addr} {x5n x5c : Nat} {x7 x25 x26 : Int} {H0 : AHeap} {prot : Nat} {H : AHeap} {x31p x31o x31l : Nat} {x32 : Bool} {x35a : Int} {x35ba : Option Addr} {x35bn x35bc : Nat} {x35ca : Option Addr} {x35cn x35cc : Nat} {x37aa : Option Addr} {x37an x37ac : Nat} {x37ba : Option Addr} {x37bn x37bc : Nat} {H2 : AHeap} {x42p x42o x42l : Nat} {x43 : Bool} {x50p x50o x50l : Nat} {x51 : ByteArray} {x55p x55o x55l : Nat} {x56 : ByteArray} {x63p x63o x63l : Nat} {x64 : ByteArray} {x68p x68o x68l : Nat} {x69 : ByteArray} (h1 : x26 < x25) (h2 : aindexAddr cfg.P 23 (Value.slice x4a x4n x4c) (Value.int .i64 x26) = some (Value.pointer (some ⟨x31p, x31o, some x31l⟩))) (h3 : getCells H x31p x31l x31o 1 = some [Value.bool x32]) (h4 : (!x32) = false) (h5 : getCells H x1p x1l x1o 3 = some [Value.int .i64 x35a, Value.slice x35ba x35bn x35bc, Value.slice x35ca x35cn x35cc]) (h6 : callInf cfg 65 [Value.agg { toList := [Value.int .i64 x35a, Value.slice x35ba x35bn x35bc, Value.slice x35ca x35cn x35cc] }, Value.int .i64 x26, Value.bool false] (List.length H0) H = some (Value.tuple { toList := [Value.slice x37aa x37an x37ac, Value.slice x37ba x37bn x37bc] }, H2)) (h7 : aindexAddr cfg.P 23 (Value.slice x37ba x37bn x37bc) (Value.int .i64 x26) = some (Value.pointer (some ⟨x42p, x42o, some x42l⟩))) (h8 : getCells H2 x42p x42l x42o 1 = some [Value.bool x43]) (h9 : (!x43) = false) (h10 : ¬(x7 < 0)) (h11 : aindexAddr cfg.P 43 (Value.slice x5a x5n x5c) (Value.int .i64 x26) = some (Value.pointer (some ⟨x50p, x50o, some x50l⟩))) (h12 : getCells H2 x50p x50l x50o 1 = some [Value.string x51]) (h13 : aindexAddr cfg.P 43 (Value.slice x5a x5n x5c) (Value.int .i64 x7) = some (Value.pointer (some ⟨x55p, x55o, some x55l⟩))) (h14 : getCells H2 x55p x55l x55o 1 = some [Value.string x56]) (h15 : ¬((↑x51.size : Int) < (↑x56.size : Int))) (h16 : aindexAddr cfg.P 43 (Value.slice x5a x5n x5c) (Value.int .i64 x26) = some (Value.pointer (some ⟨x63p, x63o, some x63l⟩))) (h17 : getCells H2 x63p x63l x63o 1 = some [Value.string x64]) (h18 : aindexAddr cfg.P 43 (Value.slice x5a x5n x5c) (Value.int .i64 x7) = some (Value.pointer (some ⟨x68p, x68o, some x68l⟩))) (h19 : getCells H2 x68p x68l x68o 1 = some [Value.string x69]) (h20 : ((↑x64.size : Int) == (↑x69.size : Int)) = false) (h21 : Fit .i64 (x26 + 1)) : lpOf cfg a37 0 prot H0 ([.pointer (some ⟨x1p, x1o, some x1l⟩), .pointer (some ⟨x3p, x3o, some x3l⟩), .slice x4a x4n x4c, .slice x5a x5n x5c, .int .i64 x7, .int .i64 x25, .int .i64 x26], H) = some (Sum.inl ([Value.pointer (some ⟨x1p, x1o, some x1l⟩), Value.pointer (some ⟨x3p, x3o, some x3l⟩), Value.slice x4a x4n x4c, Value.slice x5a x5n x5c, Value.int .i64 x7, Value.int .i64 x25, Value.int .i64 (x26 + 1)], H2)) :=
  lp_of2 [.e, .b true, .v (.pointer (some ⟨x31p, x31o, some x31l⟩)), .v (.bool x32), .e, .b false, .v (.agg #[.int .i64 x35a, .slice x35ba x35bn x35bc, .slice x35ca x35cn x35cc]), .r (.tuple #[.slice x37aa x37an x37ac, .slice x37ba x37bn x37bc]) H2, .v (.pointer (some ⟨x42p, x42o, some x42l⟩)), .v (.bool x43), .e, .b false, .e, .b false, .b false, .b false, .v (.pointer (some ⟨x50p, x50o, some x50l⟩)), .b false, .v (.string x51), .b false, .e, .b false, .b false, .b false, .v (.pointer (some ⟨x55p, x55o, some x55l⟩)), .b false, .v (.string x56), .b false, .e, .b false, .e, .b false, .b false, .b false, .b false, .v (.pointer (some ⟨x63p, x63o, some x63l⟩)), .b false, .v (.string x64), .b false, .e, .b false, .b false, .b false, .v (.pointer (some ⟨x68p, x68o, some x68l⟩)), .b false, .v (.string x69), .b false, .e, .b false, .e, .b false, .b false, .b false, .b false, .b false, .b false, .b false, .b false, .b false, .b false, .b false, .b false, .b false, .b false, .e] (ai (decide_eq_true h1) (ai h2 (ai h3 (ai h4 (ai h5 (ai h6 (ai h7 (ai h8 (ai h9 (ai (decide_eq_false h10) (ai (decide_eq_false h10) (ai (decide_eq_false h10) (ai h11 (ai (decide_eq_false h10) (ai h12 (ai (decide_eq_false h10) (ai (decide_eq_false h10) (ai (decide_eq_false h10) (ai (decide_eq_false h10) (ai h13 (ai (decide_eq_false h10) (ai h14 (ai (decide_eq_false h10) (ai (decide_eq_false h10) (ai (decide_eq_false h10) (ai (decide_eq_false h15) (ai (decide_eq_false h15) (ai (decide_eq_false h15) (ai h16 (ai (decide_eq_false h15) (ai h17 (ai (decide_eq_false h15) (ai (decide_eq_false h15) (ai (decide_eq_false h15) (ai (decide_eq_false h15) (ai h18 (ai (decide_eq_false h15) (ai h19 (ai (decide_eq_false h15) (ai (decide_eq_false h15) (ai (decide_eq_false h15) (ai h20 (ai h20 (ai h20 (ai h20 (ai h20 (ai h20 (ai h20 (ai h20 (ai h20 (ai (decide_eq_false h15) (ai h20 (ai (decide_eq_false h15) (ai (Eq.refl false) (ai h21 (Eq.refl (Sum.inl ([Value.pointer (some ⟨x1p, x1o, some x1l⟩), Value.pointer (some ⟨x3p, x3o, some x3l⟩), Value.slice x4a x4n x4c, Value.slice x5a x5n x5c, Value.int .i64 x7, Value.int .i64 x25, Value.int .i64 (x26 + 1)], H2) : LS ⊕ LO))))))))))))))))))))))))))))))))))))))))))))))))))))))))) (by kernel_rfl)
theorem f37_L0_5 {x1p x1o x1l x3p x3o x3l : Nat} {x4a : Option Addr} {x4n x4c : Nat} {x5a : Option Addr} {x5n x5c : Nat} {x7 x25 x26 : Int} {H0 : AHeap} {prot : Nat} {H : AHeap} {x31p x31o x31l : Nat} {x32 : Bool} {x35a : Int} {x35ba : Option Addr} {x35bn x35bc : Nat} {x35ca : Option Addr} {x35cn x35cc : Nat} {x37aa : Option Addr} {x37an x37ac : Nat} {x37ba : Option Addr} {x37bn x37bc : Nat} {H2 : AHeap} {x42p x42o x42l : Nat} {x43 : Bool} (h1 : x26 < x25) (h2 : aindexAddr cfg.P 23 (Value.slice x4a x4n x4c) (Value.int .i64 x26) = some (Value.pointer (some ⟨x31p, x31o, some x31l⟩))) (h3 : getCells H x31p x31l x31o 1 = some [Value.bool x32]) (h4 : (!x32) = false) (h5 : getCells H x1p x1l x1o 3 = some [Value.int .i64 x35a, Value.slice x35ba x35bn x35bc, Value.slice x35ca x35cn x35cc]) (h6 : callInf cfg 65 [Value.agg { toList := [Value.int .i64 x35a, Value.slice x35ba x35bn x35bc, Value.slice x35ca x35cn x35cc] }, Value.int .i64 x26, Value.bool false] (List.length H0) H = some (Value.tuple { toList := [Value.slice x37aa x37an x37ac, Value.slice x37ba x37bn x37bc] }, H2)) (h7 : aindexAddr cfg.P 23 (Value.slice x37ba x37bn x37bc) (Value.int .i64 x26) = some (Value.pointer (some ⟨x42p, x42o, some x42l⟩))) (h8 : getCells H2 x42p x42l x42o 1 = some [Value.bool x43]) (h9 : (!x43) = true) (h10 : Fit .i64 (x26 + 1)) : lpOf cfg a37 0 prot H0 ([.pointer (some ⟨x1p, x1o, some x1l⟩), .pointer (some ⟨x3p, x3o, some x3l⟩), .slice x4a x4n x4c, .slice x5a x5n x5c, .int .i64 x7, .int .i64 x25, .int .i64 x26], H) = some (Sum.inl ([Value.pointer (some ⟨x1p, x1o, some x1l⟩), Value.pointer (some ⟨x3p, x3o, some x3l⟩), Value.slice x4a x4n x4c, Value.slice x5a x5n x5c, Value.int .i64 x7, Value.int .i64 x25, Value.int .i64 (x26 + 1)], H2)) :=
  lp_of2 [.e, .b true, .v (.pointer (some ⟨x31p, x31o, some x31l⟩)), .v (.bool x32), .e, .b false, .v (.agg #[.int .i64 x35a, .slice x35ba x35bn x35bc, .slice x35ca x35cn x35cc]), .r (.tuple #[.slice x37aa x37an x37ac, .slice x37ba x37bn x37bc]) H2, .v (.pointer (some ⟨x42p, x42o, some x42l⟩)), .v (.bool x43), .e, .b true, .e] (ai (decide_eq_true h1) (ai h2 (ai h3 (ai h4 (ai h5 (ai h6 (ai h7 (ai h8 (ai h9 (ai h10 (Eq.refl (Sum.inl ([Value.pointer (some ⟨x1p, x1o, some x1l⟩), Value.pointer (some ⟨x3p, x3o, some x3l⟩), Value.slice x4a x4n x4c, Value.slice x5a x5n x5c, Value.int .i64 x7, Value.int .i64 x25, Value.int .i64 (x26 + 1)], H2) : LS ⊕ LO)))))))))))) (by kernel_rfl)
theorem f37_L0_6 {x1p x1o x1l x3p x3o x3l : Nat} {x4a : Option Addr} {x4n x4c : Nat} {x5a : Option Addr} {x5n x5c : Nat} {x7 x25 x26 : Int} {H0 : AHeap} {prot : Nat} {H : AHeap} {x31p x31o x31l : Nat} {x32 : Bool} (h1 : x26 < x25) (h2 : aindexAddr cfg.P 23 (Value.slice x4a x4n x4c) (Value.int .i64 x26) = some (Value.pointer (some ⟨x31p, x31o, some x31l⟩))) (h3 : getCells H x31p x31l x31o 1 = some [Value.bool x32]) (h4 : (!x32) = true) (h5 : Fit .i64 (x26 + 1)) : lpOf cfg a37 0 prot H0 ([.pointer (some ⟨x1p, x1o, some x1l⟩), .pointer (some ⟨x3p, x3o, some x3l⟩), .slice x4a x4n x4c, .slice x5a x5n x5c, .int .i64 x7, .int .i64 x25, .int .i64 x26], H) = some (Sum.inl ([Value.pointer (some ⟨x1p, x1o, some x1l⟩), Value.pointer (some ⟨x3p, x3o, some x3l⟩), Value.slice x4a x4n x4c, Value.slice x5a x5n x5c, Value.int .i64 x7, Value.int .i64 x25, Value.int .i64 (x26 + 1)], H)) :=
  lp_of2 [.e, .b true, .v (.pointer (some ⟨x31p, x31o, some x31l⟩)), .v (.bool x32), .e, .b true, .e] (ai (decide_eq_true h1) (ai h2 (ai h3 (ai h4 (ai h5 (Eq.refl (Sum.inl ([Value.pointer (some ⟨x1p, x1o, some x1l⟩), Value.pointer (some ⟨x3p, x3o, some x3l⟩), Value.slice x4a x4n x4c, Value.slice x5a x5n x5c, Value.int .i64 x7, Value.int .i64 x25, Value.int .i64 (x26 + 1)], H) : LS ⊕ LO))))))) (by kernel_rfl)
theorem f37_L0_7 {x1p x1o x1l x3p x3o x3l : Nat} {x4a : Option Addr} {x4n x4c : Nat} {x5a : Option Addr} {x5n x5c : Nat} {x7 x25 x26 : Int} {H0 : AHeap} {prot : Nat} {H : AHeap} (h1 : ¬(x26 < x25)) : lpOf cfg a37 0 prot H0 ([.pointer (some ⟨x1p, x1o, some x1l⟩), .pointer (some ⟨x3p, x3o, some x3l⟩), .slice x4a x4n x4c, .slice x5a x5n x5c, .int .i64 x7, .int .i64 x25, .int .i64 x26], H) = some (Sum.inr (Ex.exit 0, [Value.pointer (some ⟨x1p, x1o, some x1l⟩), Value.pointer (some ⟨x3p, x3o, some x3l⟩), Value.slice x5a x5n x5c, Value.int .i64 x7], H)) :=
  lp_of2 [.e, .b false] (ai (decide_eq_false h1) (Eq.refl (Sum.inr (Ex.exit 0, [Value.pointer (some ⟨x1p, x1o, some x1l⟩), Value.pointer (some ⟨x3p, x3o, some x3l⟩), Value.slice x5a x5n x5c, Value.int .i64 x7], H) : LS ⊕ LO))) (by kernel_rfl)
theorem f37_L1_0 {x1p x1o x1l x3p x3o x3l : Nat} {x5a : Option Addr} {x5n x5c : Nat} {x7 : Int} {x11a : Option Addr} {x11n x11c : Nat} {x13a : Option Addr} {x13n x13c : Nat} {x14a : Option Addr} {x14n x14c : Nat} {x15 x103 x104 : Int} {H0 : AHeap} {prot : Nat} {H : AHeap} {x108a : Option Addr} {x108n x108c x110p x110o x110l : Nat} {x111 : Bool} {x115p x115o x115l : Nat} {x116 : Bool} (h1 : x104 < x103) (h2 : getCells H x1p x1l (x1o + 2) 1 = some [Value.slice x108a x108n x108c]) (h3 : aindexAddr cfg.P 23 (Value.slice x108a x108n x108c) (Value.int .i64 x104) = some (Value.pointer (some ⟨x110p, x110o, some x110l⟩))) (h4 : getCells H x110p x110l x110o 1 = some [Value.bool x111]) (h5 : x111 = true) (h6 : aindexAddr cfg.P 23 (Value.slice x14a x14n x14c) (Value.int .i64 x104) = some (Value.pointer (some ⟨x115p, x115o, some x115l⟩))) (h7 : getCells H x115p x115l x115o 1 = some [Value.bool x116]) (h8 : x116 = true) (h9 : x15 < 0) (h10 : Fit .i64 (x104 + 1)) : lpOf cfg a37 1 prot H0 ([.pointer (some ⟨x1p, x1o, some x1l⟩), .pointer (some ⟨x3p, x3o, some x3l⟩), .slice x5a x5n x5c, .int .i64 x7, .slice x11a x11n x11c, .slice x13a x13n x13c, .slice x14a x14n x14c, .int .i64 x15, .int .i64 x103, .int .i64 x104], H) = some (Sum.inl ([Value.pointer (some ⟨x1p, x1o, some x1l⟩), Value.pointer (some ⟨x3p, x3o, some x3l⟩), Value.slice x5a x5n x5c, Value.int .i64 x7, Value.slice x11a x11n x11c, Value.slice x13a x13n x13c, Value.slice x14a x14n x14c, Value.int .i64 x104, Value.int .i64 x103, Value.int .i64 (x104 + 1)], H)) :=
  lp_of2 [.e, .b true, .v (.slice x108a x108n x108c), .v (.pointer (some ⟨x110p, x110o, some x110l⟩)), .v (.bool x111), .b true, .b true, .b true, .v (.pointer (some ⟨x115p, x115o, some x115l⟩)), .b true, .v (.bool x116), .b true, .b true, .b true, .e, .b true, .b true, .b true, .b true, .b true, .b true, .b true, .b true, .b true, .b true, .b true, .b true, .b true, .b true, .b true, .b true, .b true, .b true, .b true, .b true, .b true, .b true, .b true, .b true, .b true, .b true, .b true, .b true, .b true, .b true, .b true, .b true, .e] (ai (decide_eq_true h1) (ai h2 (ai h3 (ai h4 (ai h5 (ai h5 (ai h5 (ai h6 (ai h5 (ai h7 (ai h5 (ai h8 (ai h8 (ai h8 (ai (decide_eq_true h9) (ai (decide_eq_true h9) (ai (decide_eq_true h9) (ai (decide_eq_true h9) (ai (decide_eq_true h9) (ai (decide_eq_true h9) (ai (decide_eq_true h9) (ai (decide_eq_true h9) (ai (decide_eq_true h9) (ai (decide_eq_true h9) (ai (decide_eq_true h9) (ai h8 (ai (decide_eq_true h9) (ai h8 (ai (Eq.refl true) (ai (Eq.refl true) (ai (Eq.refl true) (ai (Eq.refl true) (ai (Eq.refl true) (ai (Eq.refl true) (ai (Eq.refl true) (ai (Eq.refl true) (ai (Eq.refl true) (ai (Eq.refl true) (ai (Eq.refl true) (ai (Eq.refl true) (ai (Eq.refl true) (ai h8 (ai (Eq.refl true) (ai h8 (ai (Eq.refl true) (ai h10 (Eq.refl (Sum.inl ([Value.pointer (some ⟨x1p, x1o, some x1l⟩), Value.pointer (some ⟨x3p, x3o, some x3l⟩), Value.slice x5a x5n x5c, Value.int .i64 x7, Value.slice x11a x11n x11c, Value.slice x13a x13n x13c, Value.slice x14a x14n x14c, Value.int .i64 x104, Value.int .i64 x103, Value.int .i64 (x104 + 1)], H) : LS ⊕ LO)))))))))))))))))))))))))))))))))))))))))))))))) (by kernel_rfl)
theorem f37_L1_1 {x1p x1o x1l x3p x3o x3l : Nat} {x5a : Option Addr} {x5n x5c : Nat} {x7 : Int} {x11a : Option Addr} {x11n x11c : Nat} {x13a : Option Addr} {x13n x13c : Nat} {x14a : Option Addr} {x14n x14c : Nat} {x15 x103 x104 : Int} {H0 : AHeap} {prot : Nat} {H : AHeap} {x108a : Option Addr} {x108n x108c x110p x110o x110l : Nat} {x111 : Bool} {x115p x115o x115l : Nat} {x116 : Bool} {x124p x124o x124l : Nat} {x125 : ByteArray} {x129p x129o x129l : Nat} {x130 : ByteArray} (h1 : x104 < x103) (h2 : getCells H x1p x1l (x1o + 2) 1 = some [Value.slice x108a x108n x108c]) (h3 : aindexAddr cfg.P 23 (Value.slice x108a x108n x108c) (Value.int .i64 x104) = some (Value.pointer (some ⟨x110p, x110o, some x110l⟩))) (h4 : getCells H x110p x110l x110o 1 = some [Value.bool x111]) (h5 : x111 = true) (h6 : aindexAddr cfg.P 23 (Value.slice x14a x14n x14c) (Value.int .i64 x104) = some (Value.pointer (some ⟨x115p, x115o, some x115l⟩))) (h7 : getCells H x115p x115l x115o 1 = some [Value.bool x116]) (h8 : x116 = true) (h9 : ¬(x15 < 0)) (h10 : aindexAddr cfg.P 43 (Value.slice x13a x13n x13c) (Value.int .i64 x104) = some (Value.pointer (some ⟨x124p, x124o, some x124l⟩))) (h11 : getCells H x124p x124l x124o 1 = some [Value.string x125]) (h12 : aindexAddr cfg.P 43 (Value.slice x13a x13n x13c) (Value.int .i64 x15) = some (Value.pointer (some ⟨x129p, x129o, some x129l⟩))) (h13 : getCells H x129p x129l x129o 1 = some [Value.string x130]) (h14 : (↑x125.size : Int) < (↑x130.size : Int)) (h15 : Fit .i64 (x104 + 1)) : lpOf cfg a37 1 prot H0 ([.pointer (some ⟨x1p, x1o, some x1l⟩), .pointer (some ⟨x3p, x3o, some x3l⟩), .slice x5a x5n x5c, .int .i64 x7, .slice x11a x11n x11c, .slice x13a x13n x13c, .slice x14a x14n x14c, .int .i64 x15, .int .i64 x103, .int .i64 x104], H) = some (Sum.inl ([Value.pointer (some ⟨x1p, x1o, some x1l⟩), Value.pointer (some ⟨x3p, x3o, some x3l⟩), Value.slice x5a x5n x5c, Value.int .i64 x7, Value.slice x11a x11n x11c, Value.slice x13a x13n x13c, Value.slice x14a x14n x14c, Value.int .i64 x104, Value.int .i64 x103, Value.int .i64 (x104 + 1)], H)) :=
  lp_of2 [.e, .b true, .v (.slice x108a x108n x108c), .v (.pointer (some ⟨x110p, x110o, some x110l⟩)), .v (.bool x111), .b true, .b true, .b true, .v (.pointer (some ⟨x115p, x115o, some x115l⟩)), .b true, .v (.bool x116), .b true, .b true, .b true, .e, .b true, .b false, .b false, .b false, .v (.pointer (some ⟨x124p, x124o, some x124l⟩)), .b false, .v (.string x125), .b false, .e, .b false, .b false, .b false, .v (.pointer (some ⟨x129p, x129o, some x129l⟩)), .b false, .v (.string x130), .b false, .e, .b false, .e, .b true, .b false, .b true, .b true, .b true, .b true, .b true, .b true, .b true, .b true, .b true, .b true, .b true, .b true, .b true, .b true, .b true, .b true, .b true, .b true, .e] (ai (decide_eq_true h1) (ai h2 (ai h3 (ai h4 (ai h5 (ai h5 (ai h5 (ai h6 (ai h5 (ai h7 (ai h5 (ai h8 (ai h8 (ai h8 (ai (decide_eq_false h9) (ai (decide_eq_false h9) (ai (decide_eq_false h9) (ai h10 (ai (decide_eq_false h9) (ai h11 (ai (decide_eq_false h9) (ai (decide_eq_false h9) (ai (decide_eq_false h9) (ai (decide_eq_false h9) (ai h12 (ai (decide_eq_false h9) (ai h13 (ai (decide_eq_false h9) (ai (decide_eq_false h9) (ai h8 (ai (decide_eq_false h9) (ai h8 (ai (decide_eq_true h14) (ai (decide_eq_true h14) (ai (decide_eq_true h14) (ai (decide_eq_true h14) (ai (decide_eq_true h14) (ai (decide_eq_true h14) (ai (decide_eq_true h14) (ai (decide_eq_true h14) (ai (decide_eq_true h14) (ai (decide_eq_true h14) (ai (decide_eq_true h14) (ai (decide_eq_true h14) (ai (decide_eq_true h14) (ai h8 (ai (decide_eq_true h14) (ai h8 (ai (Eq.refl true) (ai h15 (Eq.refl (Sum.inl ([Value.pointer (some ⟨x1p, x1o, some x1l⟩), Value.pointer (some ⟨x3p, x3o, some x3l⟩), Value.slice x5a x5n x5c, Value.int .i64 x7, Value.slice x11a x11n x11c, Value.slice x13a x13n x13c, Value.slice x14a x14n x14c, Value.int .i64 x104, Value.int .i64 x103, Value.int .i64 (x104 + 1)], H) : LS ⊕ LO)))))))))))))))))))))))))))))))))))))))))))))))))))) (by kernel_rfl)
theorem f37_L1_2 {x1p x1o x1l x3p x3o x3l : Nat} {x5a : Option Addr} {x5n x5c : Nat} {x7 : Int} {x11a : Option Addr} {x11n x11c : Nat} {x13a : Option Addr} {x13n x13c : Nat} {x14a : Option Addr} {x14n x14c : Nat} {x15 x103 x104 : Int} {H0 : AHeap} {prot : Nat} {H : AHeap} {x108a : Option Addr} {x108n x108c x110p x110o x110l : Nat} {x111 : Bool} {x115p x115o x115l : Nat} {x116 : Bool} {x124p x124o x124l : Nat} {x125 : ByteArray} {x129p x129o x129l : Nat} {x130 : ByteArray} {x137p x137o x137l : Nat} {x138 : ByteArray} {x142p x142o x142l : Nat} {x143 : ByteArray} {x149p x149o x149l : Nat} {x150 : ByteArray} {x153p x153o x153l : Nat} {x154 : ByteArray} (h1 : x104 < x103) (h2 : getCells H x1p x1l (x1o + 2) 1 = some [Value.slice x108a x108n x108c]) (h3 : aindexAddr cfg.P 23 (Value.slice x108a x108n x108c) (Value.int .i64 x104) = some (Value.pointer (some ⟨x110p, x110o, some x110l⟩))) (h4 : getCells H x110p x110l x110o 1 = some [Value.bool x111]) (h5 : x111 = true) (h6 : aindexAddr cfg.P 23 (Value.slice x14a x14n x14c) (Value.int .i64 x104) = some (Value.pointer (some ⟨x115p, x115o, some x115l⟩))) (h7 : getCells H x115p x115l x115o 1 = some [Value.bool x116]) (h8 : x116 = true) (h9 : ¬(x15 < 0)) (h10 : aindexAddr cfg.P 43 (Value.slice x13a x13n x13c) (Value.int .i64 x104) = some (Value.pointer (some ⟨x124p, x124o, some x124l⟩))) (h11 : getCells H x124p x124l x124o 1 = some [Value.string x125]) (h12 : aindexAddr cfg.P 43 (Value.slice x13a x13n x13c) (Value.int .i64 x15) = some (Value.pointer (some ⟨x129p, x129o, some x129l⟩))) (h13 : getCells H x129p x129l x129o 1 = some [Value.string x130]) (h14 : ¬((↑x125.size : Int) < (↑x130.size : Int))) (h15 : aindexAddr cfg.P 43 (Value.slice x13a x13n x13c) (Value.int .i64 x104) = some (Value.pointer (some ⟨x137p, x137o, some x137l⟩))) (h16 : getCells H x137p x137l x137o 1 = some [Value.string x138]) (h17 : aindexAddr cfg.P 43 (Value.slice x13a x13n x13c) (Value.int .i64 x15) = some (Value.pointer (some ⟨x142p, x142o, some x142l⟩))) (h18 : getCells H x142p x142l x142o 1 = some [Value.string x143]) (h19 : ((↑x138.size : Int) == (↑x143.size : Int)) = true) (h20 : aindexAddr cfg.P 43 (Value.slice x13a x13n x13c) (Value.int .i64 x104) = some (Value.pointer (some ⟨x149p, x149o, some x149l⟩))) (h21 : getCells H x149p x149l x149o 1 = some [Value.string x150]) (h22 : aindexAddr cfg.P 43 (Value.slice x13a x13n x13c) (Value.int .i64 x15) = some (Value.pointer (some ⟨x153p, x153o, some x153l⟩))) (h23 : getCells H x153p x153l x153o 1 = some [Value.string x154]) (h24 : Op.bytesLess x150.toList x154.toList = true) (h25 : Fit .i64 (x104 + 1)) : lpOf cfg a37 1 prot H0 ([.pointer (some ⟨x1p, x1o, some x1l⟩), .pointer (some ⟨x3p, x3o, some x3l⟩), .slice x5a x5n x5c, .int .i64 x7, .slice x11a x11n x11c, .slice x13a x13n x13c, .slice x14a x14n x14c, .int .i64 x15, .int .i64 x103, .int .i64 x104], H) = some (Sum.inl ([Value.pointer (some ⟨x1p, x1o, some x1l⟩), Value.pointer (some ⟨x3p, x3o, some x3l⟩), Value.slice x5a x5n x5c, Value.int .i64 x7, Value.slice x11a x11n x11c, Value.slice x13a x13n x13c, Value.slice x14a x14n x14c, Value.int .i64 x104, Value.int .i64 x103, Value.int .i64 (x104 + 1)], H)) :=
  lp_of2 [.e, .b true, .v (.slice x108a x108n x108c), .v (.pointer (some ⟨x110p, x110o, some x110l⟩)), .v (.bool x111), .b true, .b true, .b true, .v (.pointer (some ⟨x115p, x115o, some x115l⟩)), .b true, .v (.bool x116), .b true, .b true, .b true, .e, .b true, .b false, .b false, .b false, .v (.pointer (some ⟨x124p, x124o, some x124l⟩)), .b false, .v (.string x125), .b false, .e, .b false, .b false, .b false, .v (.pointer (some ⟨x129p, x129o, some x129l⟩)), .b false, .v (.string x130), .b false, .e, .b false, .e, .b true, .b false, .b true, .b false, .b false, .b false, .v (.pointer (some ⟨x137p, x137o, some x137l⟩)), .b false, .v (.string x138), .b false, .e, .b false, .b false, .b false, .v (.pointer (some ⟨x142p, x142o, some x142l⟩)), .b false, .v (.string x143), .b false, .e, .b false, .e, .b false, .b true, .b true, .b true, .v (.pointer (some ⟨x149p, x149o, some x149l⟩)), .b true, .v (.string x150), .b true, .b true, .b true, .v (.pointer (some ⟨x153p, x153o, some x153l⟩)), .b true, .v (.string x154), .b true, .e, .b false, .b true, .b true, .b false, .b true, .b true, .e] (ai (decide_eq_true h1) (ai h2 (ai h3 (ai h4 (ai h5 (ai h5 (ai h5 (ai h6 (ai h5 (ai h7 (ai h5 (ai h8 (ai h8 (ai h8 (ai (decide_eq_false h9) (ai (decide_eq_false h9) (ai (decide_eq_false h9) (ai h10 (ai (decide_eq_false h9) (ai h11 (ai (decide_eq_false h9) (ai (decide_eq_false h9) (ai (decide_eq_false h9) (ai (decide_eq_false h9) (ai h12 (ai (decide_eq_false h9) (ai h13 (ai (decide_eq_false h9) (ai (decide_eq_false h9) (ai h8 (ai (decide_eq_false h9) (ai h8 (ai (decide_eq_false h14) (ai (decide_eq_false h14) (ai (decide_eq_false h14) (ai h15 (ai (decide_eq_false h14) (ai h16 (ai (decide_eq_false h14) (ai (decide_eq_false h14) (ai (decide_eq_false h14) (ai (decide_eq_false h14) (ai h17 (ai (decide_eq_false h14) (ai h18 (ai (decide_eq_false h14) (ai (decide_eq_false h14) (ai (decide_eq_false h14) (ai h19 (ai h19 (ai h19 (ai h20 (ai h19 (ai h21 (ai h19 (ai h19 (ai h19 (ai h22 (ai h19 (ai h23 (ai h19 (ai (decide_eq_false h14) (ai h19 (ai h8 (ai (decide_eq_false h14) (ai h8 (ai h24 (ai h25 (Eq.refl (Sum.inl ([Value.pointer (some ⟨x1p, x1o, some x1l⟩), Value.pointer (some ⟨x3p, x3o, some x3l⟩), Value.slice x5a x5n x5c, Value.int .i64 x7, Value.slice x11a x11n x11c, Value.slice x13a x13n x13c, Value.slice x14a x14n x14c, Value.int .i64 x104, Value.int .i64 x103, Value.int .i64 (x104 + 1)], H) : LS ⊕ LO)))))))))))))))))))))))))))))))))))))))))))))))))))))))))))))))))))))) (by kernel_rfl)
theorem f37_L1_3 {x1p x1o x1l x3p x3o x3l : Nat} {x5a : Option Addr} {x5n x5c : Nat} {x7 : Int} {x11a : Option Addr} {x11n x11c : Nat} {x13a : Option Addr} {x13n x13c : Nat} {x14a : Option Addr} {x14n x14c : Nat} {x15 x103 x104 : Int} {H0 : AHeap} {prot : Nat} {H : AHeap} {x108a : Option Addr} {x108n x108c x110p x110o x110l : Nat} {x111 : Bool} {x115p x115o x115l : Nat} {x116 : Bool} {x124p x124o x124l : Nat} {x125 : ByteArray} {x129p x129o x129l : Nat} {x130 : ByteArray} {x137p x137o x137l : Nat} {x138 : ByteArray} {x142p x142o x142l : Nat} {x143 : ByteArray} {x149p x149o x149l : Nat} {x150 : ByteArray} {x153p x153o x153l : Nat} {x154 : ByteArray} (h1 : x104 < x103) (h2 : getCells H x1p x1l (x1o + 2) 1 = some [Value.slice x108a x108n x108c]) (h3 : aindexAddr cfg.P 23 (Value.slice x108a x108n x108c) (Value.int .i64 x104) = some (Value.pointer (some ⟨x110p, x110o, some x110l⟩))) (h4 : getCells H x110p x110l x110o 1 = some [Value.bool x111]) (h5 : x111 = true) (h6 : aindexAddr cfg.P 23 (Value.slice x14a x14n x14c) (Value.int .i64 x104) = some (Value.pointer (some ⟨x115p, x115o, some x115l⟩))) (h7 : getCells H x115p x115l x115o 1 = some [Value.bool x116]) (h8 : x116 = true) (h9 : ¬(x15 < 0)) (h10 : aindexAddr cfg.P 43 (Value.slice x13a x13n x13c) (Value.int .i64 x104) = some (Value.pointer (some ⟨x124p, x124o, some x124l⟩))) (h11 : getCells H x124p x124l x124o 1 = some [Value.string x125]) (h12 : aindexAddr cfg.P 43 (Value.slice x13a x13n x13c) (Value.int .i64 x15) = some (Value.pointer (some ⟨x129p, x129o, some x129l⟩))) (h13 : getCells H x129p x129l x129o 1 = some [Value.string x130]) (h14 : ¬((↑x125.size : Int) < (↑x130.size : Int))) (h15 : aindexAddr cfg.P 43 (Value.slice x13a x13n x13c) (Value.int .i64 x104) = some (Value.pointer (some ⟨x137p, x137o, some x137l⟩))) (h16 : getCells H x137p x137l x137o 1 = some [Value.string x138]) (h17 : aindexAddr cfg.P 43 (Value.slice x13a x13n x13c) (Value.int .i64 x15) = some (Value.pointer (some ⟨x142p, x142o, some x142l⟩))) (h18 : getCells H x142p x142l x142o 1 = some [Value.string x143]) (h19 : ((↑x138.size : Int) == (↑x143.size : Int)) = true) (h20 : aindexAddr cfg.P 43 (Value.slice x13a x13n x13c) (Value.int .i64 x104) = some (Value.pointer (some ⟨x149p, x149o, some x149l⟩))) (h21 : getCells H x149p x149l x149o 1 = some [Value.string x150]) (h22 : aindexAddr cfg.P 43 (Value.slice x13a x13n x13c) (Value.int .i64 x15) = some (Value.pointer (some ⟨x153p, x153o, some x153l⟩))) (h23 : getCells H x153p x153l x153o 1 = some [Value.string x154]) (h24 : Op.bytesLess x150.toList x154.toList = false) (h25 : Fit .i64 (x104 + 1)) : lpOf cfg a37 1 prot H0 ([.pointer (some ⟨x1p, x1o, some x1l⟩), .pointer (some ⟨x3p, x3o, some x3l⟩), .slice x5a x5n x5c, .int .i64 x7, .slice x11a x11n x11c, .slice x13a x13n x13c, .slice x14a x14n x14c, .int .i64 x15, .int .i64 x103, .int .i64 x104], H) = some (Sum.inl ([Value.pointer (some ⟨x1p, x1o, some x1l⟩), Value.pointer (some ⟨x3p, x3o, some x3l⟩), Value.slice x5a x5n x5c, Value.int .i64 x7, Value.slice x11a x11n x11c, Value.slice x13a x13n x13c, Value.slice x14a x14n x14c, Value.int .i64 x15, Value.int .i64 x103, Value.int .i64 (x104 + 1)], H)) :=
  lp_of2 [.e, .b true, .v (.slice x108a x108n x108c), .v (.pointer (some ⟨x110p, x110o, some x110l⟩)), .v (.bool x111), .b true, .b true, .b true, .v (.pointer (some ⟨x115p, x115o, some x115l⟩)), .b true, .v (.bool x116), .b true, .b true, .b true, .e, .b true, .b false, .b false, .b false, .v (.pointer (some ⟨x124p, x124o, some x124l⟩)), .b false, .v (.string x125), .b false, .e, .b false, .b false, .b false, .v (.pointer (some ⟨x129p, x129o, some x129l⟩)), .b false, .v (.string x130), .b false, .e, .b false, .e, .b true, .b false, .b true, .b false, .b false, .b false, .v (.pointer (some ⟨x137p, x137o, some x137l⟩)), .b false, .v (.string x138), .b false, .e, .b false, .b false, .b false, .v (.pointer (some ⟨x142p, x142o, some x142l⟩)), .b false, .v (.string x143), .b false, .e, .b false, .e, .b false, .b true, .b true, .b true, .v (.pointer (some ⟨x149p, x149o, some x149l⟩)), .b true, .v (.string x150), .b true, .b true, .b true, .v (.pointer (some ⟨x153p, x153o, some x153l⟩)), .b true, .v (.string x154), .b true, .e, .b false, .b true, .b true, .b false, .b true, .b false, .e] (ai (decide_eq_true h1) (ai h2 (ai h3 (ai h4 (ai h5 (ai h5 (ai h5 (ai h6 (ai h5 (ai h7 (ai h5 (ai h8 (ai h8 (ai h8 (ai (decide_eq_false h9) (ai (decide_eq_false h9) (ai (decide_eq_false h9) (ai h10 (ai (decide_eq_false h9) (ai h11 (ai (decide_eq_false h9) (ai (decide_eq_false h9) (ai (decide_eq_false h9) (ai (decide_eq_false h9) (ai h12 (ai (decide_eq_false h9) (ai h13 (ai (decide_eq_false h9) (ai (decide_eq_false h9) (ai h8 (ai (decide_eq_false h9) (ai h8 (ai (decide_eq_false h14) (ai (decide_eq_false h14) (ai (decide_eq_false h14) (ai h15 (ai (decide_eq_false h14) (ai h16 (ai (decide_eq_false h14) (ai (decide_eq_false h14) (ai (decide_eq_false h14) (ai (decide_eq_false h14) (ai h17 (ai (decide_eq_false h14) (ai h18 (ai (decide_eq_false h14) (ai (decide_eq_false h14) (ai (decide_eq_false h14) (ai h19 (ai h19 (ai h19 (ai h20 (ai h19 (ai h21 (ai h19 (ai h19 (ai h19 (ai h22 (ai h19 (ai h23 (ai h19 (ai (decide_eq_false h14) (ai h19 (ai h8 (ai (decide_eq_false h14) (ai h8 (ai h24 (ai h25 (Eq.refl (Sum.inl ([Value.pointer (some ⟨x1p, x1o, some x1l⟩), Value.pointer (some ⟨x3p, x3o, some x3l⟩), Value.slice x5a x5n x5c, Value.int .i64 x7, Value.slice x11a x11n x11c, Value.slice x13a x13n x13c, Value.slice x14a x14n x14c, Value.int .i64 x15, Value.int .i64 x103, Value.int .i64 (x104 + 1)], H) : LS ⊕ LO)))))))))))))))))))))))))))))))))))))))))))))))))))))))))))))))))))))) (by kernel_rfl)
theorem f37_L1_4 {x1p x1o x1l x3p x3o x3l : Nat} {x5a : Option Addr} {x5n x5c : Nat} {x7 : Int} {x11a : Option Addr} {x11n x11c : Nat} {x13a : Option Addr} {x13n x13c : Nat} {x14a : Option Addr} {x14n x14c : Nat} {x15 x103 x104 : Int} {H0 : AHeap} {prot : Nat} {H : AHeap} {x108a : Option Addr} {x108n x108c x110p x110o x110l : Nat} {x111 : Bool} {x115p x115o x115l : Nat} {x116 : Bool} {x124p x124o x124l : Nat} {x125 : ByteArray} {x129p x129o x129l : Nat} {x130 : ByteArray} {x137p x137o x137l : Nat} {x138 : ByteArray} {x142p x142o x142l : Nat} {x143 : ByteArray} (h1 : x104 < x103) (h2 : getCells H x1p x1l (x1o + 2) 1 = some [Value.slice x108a x108n x108c]) (h3 : aindexAddr cfg.P 23 (Value.slice x108a x108n x108c) (Value.int .i64 x104) = some (Value.pointer (some ⟨x110p, x110o, some x110l⟩))) (h4 : getCells H x110p x110l x110o 1 = some [Value.bool x111]) (h5 : x111 = true) (h6 : aindexAddr cfg.P 23 (Value.slice x14a x14n x14c) (Value.int .i64 x104) = some (Value.pointer (some ⟨x115p, x115o, some x115l⟩))) (h7 : getCells H x115p x115l x115o 1 = some [Value.bool x116]) (h8 : x116 = true) (h9 : ¬(x15 < 0)) (h10 : aindexAddr cfg.P 43 (Value.slice x13a x13n x13c) (Value.int .i64 x104) = some (Value.pointer (some ⟨x124p, x124o, some x124l⟩))) (h11 : getCells H x124p x124l x124o 1 = some [Value.string x125]) (h12 : aindexAddr cfg.P 43 (Value.slice x13a x13n x13c) (Value.int .i64 x15) = some (Value.pointer (some ⟨x129p, x129o, some x129l⟩))) (h13 : getCells H x129p x129l x129o 1 = some [Value.string x130]) (h14 : ¬((↑x125.size : Int) < (↑x130.size : Int))) (h15 : aindexAddr cfg.P 43 (Value.slice x13a x13n x13c) (Value.int .i64 x104) = some (Value.pointer (some ⟨x137p, x137o, some x137l⟩))) (h16 : getCells H x137p x137l x137o 1 = some [Value.string x138]) (h17 : aindexAddr cfg.P 43 (Value.slice x13a x13n x13c) (Value.int .i64 x15) = some (Value.pointer (some ⟨x142p, x142o, some x142l⟩))) (h18 : getCells H x142p x142l x142o 1 = some [Value.string x143]) (h19 : ((↑x138.size : Int) == (↑x143.size : Int)) = false) (h20 : Fit .i64 (x104 + 1)) : lpOf cfg a37 1 prot H0 ([.pointer (some ⟨x1p, x1o, some x1l⟩), .pointer (some ⟨x3p, x3o, some x3l⟩), .slice x5a x5n x5c, .int .i64 x7, .slice x11a x11n x11c, .slice x13a x13n x13c, .slice x14a x14n x14c, .int .i64 x15, .int .i64 x103, .int .i64 x104], H) = some (Sum.inl ([Value.pointer (some ⟨x1p, x1o, some x1l⟩), Value.pointer (some ⟨x3p, x3o, some x3l⟩), Value.slice x5a x5n x5c, Value.int .i64 x7, Value.slice x11a x11n x11c, Value.slice x13a x13n x13c, Value.slice x14a x14n x14c, Value.int .i64 x15, Value.int .i64 x103, Value.int .i64 (x104 + 1)], H)) :=
  lp_of2 [.e, .b true, .v (.slice x108a x108n x108c), .v (.pointer (some ⟨x110p, x110o, some x110l⟩)), .v (.bool x111), .b true, .b true, .b true, .v (.pointer (some ⟨x115p, x115o, some x115l⟩)), .b true, .v (.bool x116), .b true, .b true, .b true, .e, .b true, .b false, .b false, .b false, .v (.pointer (some ⟨x124p, x124o, some x124l⟩)), .b false, .v (.string x125), .b false, .e, .b false, .b false, .b false, .v (.pointer (some ⟨x129p, x129o, some x129l⟩)), .b false, .v (.string x130), .b false, .e, .b false, .e, .b true, .b false, .b true, .b false, .b false, .b false, .v (.pointer (some ⟨x137p, x137o, some x137l⟩)), .b false, .v (.string x138), .b false, .e, .b false, .b false, .b false, .v (.pointer (some ⟨x142p, x142o, some x142l⟩)), .b false, .v (.string x143), .b false, .e, .b false, .e, .b false, .b false, .b false, .b false, .b false, .b false, .b false, .b false, .b false, .b false, .b false, .b false, .b true, .b false, .b true, .b false, .e] (ai (decide_eq_true h1) (ai h2 (ai h3 (ai h4 (ai h5 (ai h5 (ai h5 (ai h6 (ai h5 (ai h7 (ai h5 (ai h8 (ai h8 (ai h8 (ai (decide_eq_false h9) (ai (decide_eq_false h9) (ai (decide_eq_false h9) (ai h10 (ai (decide_eq_false h9) (ai h11 (ai (decide_eq_false h9) (ai (decide_eq_false h9) (ai (decide_eq_false h9) (ai (decide_eq_false h9) (ai h12 (ai (decide_eq_false h9) (ai h13 (ai (decide_eq_false h9) (ai (decide_eq_false h9) (ai h8 (ai (decide_eq_false h9) (ai h8 (ai (decide_eq_false h14) (ai (decide_eq_false h14) (ai (decide_eq_false h14) (ai h15 (ai (decide_eq_false h14) (ai h16 (ai (decide_eq_false h14) (ai (decide_eq_false h14) (ai (decide_eq_false h14) (ai (decide_eq_false h14) (ai h17 (ai (decide_eq_false h14) (ai h18 (ai (decide_eq_false h14) (ai (decide_eq_false h14) (ai (decide_eq_false h14) (ai h19 (ai h19 (ai h19 (ai h19 (ai h19 (ai h19 (ai h19 (ai h19 (ai h19 (ai (decide_eq_false h14) (ai h19 (ai h8 (ai (decide_eq_false h14) (ai h8 (ai (Eq.refl false) (ai h20 (Eq.refl (Sum.inl ([Value.pointer (some ⟨x1p, x1o, some x1l⟩), Value.pointer (some ⟨x3p, x3o, some x3l⟩), Value.slice x5a x5n x5c, Value.int .i64 x7, Value.slice x11a x11n x11c, Value.slice x13a x13n x13c, Value.slice x14a x14n x14c, Value.int .i64 x15, Value.int .i64 x103, Value.int .i64 (x104 + 1)], H) : LS ⊕ LO)))))))))))))))))))))))))))))))))))))))))))))))))))))))))))))))))) (by kernel_rfl)
theorem f37_L1_5 {x1p x1o x1l x3p x3o x3l : Nat} {x5a : Option Addr} {x5n x5c : Nat} {x7 : Int} {x11a : Option Addr} {x11n x11c : Nat} {x13a : Option Addr} {x13n x13c : Nat} {x14a : Option Addr} {x14n x14c : Nat} {x15 x103 x104 : Int} {H0 : AHeap} {prot : Nat} {H : AHeap} {x108a : Option Addr} {x108n x108c x110p x110o x110l : Nat} {x111 : Bool} {x115p x115o x115l : Nat} {x116 : Bool} (h1 : x104 < x103) (h2 : getCells H x1p x1l (x1o + 2) 1 = some [Value.slice x108a x108n x108c]) (h3 : aindexAddr cfg.P 23 (Value.slice x108a x108n x108c) (Value.int .i64 x104) = some (Value.pointer (some ⟨x110p, x110o, some x110l⟩))) (h4 : getCells H x110p x110l x110o 1 = some [Value.bool x111]) (h5 : x111 = true) (h6 : aindexAddr cfg.P 23 (Value.slice x14a x14n x14c) (Value.int .i64 x104) = some (Value.pointer (some ⟨x115p, x115o, some x115l⟩))) (h7 : getCells H x115p x115l x115o 1 = some [Value.bool x116]) (h8 : x116 = false) (h9 : Fit .i64 (x104 + 1)) : lpOf cfg a37 1 prot H0 ([.pointer (some ⟨x1p, x1o, some x1l⟩), .pointer (some ⟨x3p, x3o, some x3l⟩), .slice x5a x5n x5c, .int .i64 x7, .slice x11a x11n x11c, .slice x13a x13n x13c, .slice x14a x14n x14c, .int .i64 x15, .int .i64 x103, .int .i64 x104], H) = some (Sum.inl ([Value.pointer (some ⟨x1p, x1o, some x1l⟩), Value.pointer (some ⟨x3p, x3o, some x3l⟩), Value.slice x5a x5n x5c, Value.int .i64 x7, Value.slice x11a x11n x11c, Value.slice x13a x13n x13c, Value.slice x14a x14n x14c, Value.int .i64 x15, Value.int .i64 x103, Value.int .i64 (x104 + 1)], H)) :=
  lp_of2 [.e, .b true, .v (.slice x108a x108n x108c), .v (.pointer (some ⟨x110p, x110o, some x110l⟩)), .v (.bool x111), .b true, .b true, .b true, .v (.pointer (some ⟨x115p, x115o, some x115l⟩)), .b true, .v (.bool x116), .b true, .b false, .b false, .b false, .b false, .b false, .b false, .b false, .b false, .e] (ai (decide_eq_true h1) (ai h2 (ai h3 (ai h4 (ai h5 (ai h5 (ai h5 (ai h6 (ai h5 (ai h7 (ai h5 (ai h8 (ai h8 (ai h8 (ai h8 (ai h8 (ai h8 (ai h8 (ai (Eq.refl false) (ai h9 (Eq.refl (Sum.inl ([Value.pointer (some ⟨x1p, x1o, some x1l⟩), Value.pointer (some ⟨x3p, x3o, some x3l⟩), Value.slice x5a x5n x5c, Value.int .i64 x7, Value.slice x11a x11n x11c, Value.slice x13a x13n x13c, Value.slice x14a x14n x14c, Value.int .i64 x15, Value.int .i64 x103, Value.int .i64 (x104 + 1)], H) : LS ⊕ LO)))))))))))))))))))))) (by kernel_rfl)
theorem f37_L1_6 {x1p x1o x1l x3p x3o x3l : Nat} {x5a : Option Addr} {x5n x5c : Nat} {x7 : Int} {x11a : Option Addr} {x11n x11c : Nat} {x13a : Option Addr} {x13n x13c : Nat} {x14a : Option Addr} {x14n x14c : Nat} {x15 x103 x104 : Int} {H0 : AHeap} {prot : Nat} {H : AHeap} {x108a : Option Addr} {x108n x108c x110p x110o x110l : Nat} {x111 : Bool} (h1 : x104 < x103) (h2 : getCells H x1p x1l (x1o + 2) 1 = some [Value.slice x108a x108n x108c]) (h3 : aindexAddr cfg.P 23 (Value.slice x108a x108n x108c) (Value.int .i64 x104) = some (Value.pointer (some ⟨x110p, x110o, some x110l⟩))) (h4 : getCells H x110p x110l x110o 1 = some [Value.bool x111]) (h5 : x111 = false) (h6 : Fit .i64 (x104 + 1)) : lpOf cfg a37 1 prot H0 ([.pointer (some ⟨x1p, x1o, some x1l⟩), .pointer (some ⟨x3p, x3o, some x3l⟩), .slice x5a x5n x5c, .int .i64 x7, .slice x11a x11n x11c, .slice x13a x13n x13c, .slice x14a x14n x14c, .int .i64 x15, .int .i64 x103, .int .i64 x104], H) = some (Sum.inl ([Value.pointer (some ⟨x1p, x1o, some x1l⟩), Value.pointer (some ⟨x3p, x3o, some x3l⟩), Value.slice x5a x5n x5c, Value.int .i64 x7, Value.slice x11a x11n x11c, Value.slice x13a x13n x13c, Value.slice x14a x14n x14c, Value.int .i64 x15, Value.int .i64 x103, Value.int .i64 (x104 + 1)], H)) :=
  lp_of2 [.e, .b true, .v (.slice x108a x108n x108c), .v (.pointer (some ⟨x110p, x110o, some x110l⟩)), .v (.bool x111), .b false, .b false, .b false, .b false, .b false, .b false, .b false, .b false, .b false, .b false, .b false, .b false, .b false, .e] (ai (decide_eq_true h1) (ai h2 (ai h3 (ai h4 (ai h5 (ai h5 (ai h5 (ai h5 (ai h5 (ai (Eq.refl false) (ai (Eq.refl false) (ai (Eq.refl false) (ai (Eq.refl false) (ai (Eq.refl false) (ai (Eq.refl false) (ai (Eq.refl false) (ai (Eq.refl false) (ai h6 (Eq.refl (Sum.inl ([Value.pointer (some ⟨x1p, x1o, some x1l⟩), Value.pointer (some ⟨x3p, x3o, some x3l⟩), Value.slice x5a x5n x5c, Value.int .i64 x7, Value.slice x11a x11n x11c, Value.slice x13a x13n x13c, Value.slice x14a x14n x14c, Value.int .i64 x15, Value.int .i64 x103, Value.int .i64 (x104 + 1)], H) : LS ⊕ LO)))))))))))))))))))) (by kernel_rfl)
theorem f37_L1_7 {x1p x1o x1l x3p x3o x3l : Nat} {x5a : Option Addr} {x5n x5c : Nat} {x7 : Int} {x11a : Option Addr} {x11n x11c : Nat} {x13a : Option Addr} {x13n x13c : Nat} {x14a : Option Addr} {x14n x14c : Nat} {x15 x103 x104 : Int} {H0 : AHeap} {prot : Nat} {H : AHeap} (h1 : ¬(x104 < x103)) : lpOf cfg a37 1 prot H0 ([.pointer (some ⟨x1p, x1o, some x1l⟩), .pointer (some ⟨x3p, x3o, some x3l⟩), .slice x5a x5n x5c, .int .i64 x7, .slice x11a x11n x11c, .slice x13a x13n x13c, .slice x14a x14n x14c, .int .i64 x15, .int .i64 x103, .int .i64 x104], H) = some (Sum.inr (Ex.exit 2, [Value.pointer (some ⟨x3p, x3o, some x3l⟩), Value.slice x5a x5n x5c, Value.int .i64 x7, Value.slice x11a x11n x11c, Value.slice x13a x13n x13c, Value.int .i64 x15], H)) :=
  lp_of2 [.e, .b false] (ai (decide_eq_false h1) (Eq.refl (Sum.inr (Ex.exit 2, [Value.pointer (some ⟨x3p, x3o, some x3l⟩), Value.slice x5a x5n x5c, Value.int .i64 x7, Value.slice x11a x11n x11c, Value.slice x13a x13n x13c, Value.int .i64 x15], H) : LS ⊕ LO))) (by kernel_rfl)
end Go.Proofs.Ythjkodbinkiifaa.Am23
namespace Go.Proofs.Ythjkodbinkiifaa.Am23
open Go Go.Proofs.Ythjkodbinkiifaa.Am

/-- Shorter, or as long and ahead. -/
def slt (a b : ByteArray) : Bool := decide (a.size < b.size) || (decide (a.size = b.size) && Op.bytesLess a.toList b.toList)
def ahd (wd : Nat → ByteArray) (s : Nat) : Option Nat → Bool
  | none => true
  | some t => slt (wd s) (wd t)
def upd (ok : Nat → Bool) (wd : Nat → ByteArray) (s : Nat) (b : Option Nat) : Option Nat := if ok s && ahd wd s b then some s else b
/-- The state with the least word, of those that will do. -/
def pick (ok : Nat → Bool) (wd : Nat → ByteArray) : Nat → Nat → Option Nat → Option Nat
  | 0, _, b => b
  | d + 1, s, b => pick ok wd d (s + 1) (upd ok wd s b)
def bi : Option Nat → Int
  | none => -1
  | some s => s
theorem upd_ok {ok : Nat → Bool} {wd : Nat → ByteArray} {s : Nat} {b : Option Nat} (h : ok s = true) {v : Bool} (h2 : ahd wd s b = v) : upd ok wd s b = if v = true then some s else b := by
  unfold upd; rw [h, h2, Bool.true_and]
theorem upd_no {ok : Nat → Bool} {wd : Nat → ByteArray} {s : Nat} {b : Option Nat} (h : ok s = false) : upd ok wd s b = b := by
  unfold upd; rw [h, Bool.false_and]; rfl
theorem upd_some {ok : Nat → Bool} {wd : Nat → ByteArray} {s : Nat} {b : Option Nat} {t : Nat} (h : upd ok wd s b = some t) : (t = s ∧ ok s = true) ∨ b = some t := by
  unfold upd at h
  split at h
  · rename_i h2
    cases h
    exact .inl ⟨rfl, (Bool.and_eq_true _ _ ▸ h2).1⟩
  · exact .inr h
theorem pick_some {ok : Nat → Bool} {wd : Nat → ByteArray} : ∀ (d s : Nat) (b : Option Nat) {t : Nat}, pick ok wd d s b = some t → (s ≤ t ∧ t < s + d ∧ ok t = true) ∨ b = some t
  | 0, _, _, _, h => .inr h
  | d + 1, s, b, t, h => by
    rcases pick_some d (s + 1) _ h with ⟨h1, h2, h3⟩ | h1
    · exact .inl ⟨by omega, by omega, h3⟩
    · rcases upd_some h1 with ⟨rfl, h2⟩ | h2
      · exact .inl ⟨by omega, by omega, h2⟩
      · exact .inr h2
theorem pick_none {ok : Nat → Bool} {wd : Nat → ByteArray} : ∀ (d s : Nat) (b : Option Nat), pick ok wd d s b = none → b = none ∧ ∀ t, s ≤ t → t < s + d → ok t = false
  | 0, _, _, h => ⟨h, fun t h1 h2 => by omega⟩
  | d + 1, s, b, h => by
    obtain ⟨h1, h2⟩ := pick_none d (s + 1) _ h
    unfold upd at h1
    split at h1
    · cases h1
    · rename_i h3
      subst h1
      have h3 : ¬ (ok s && true) = true := h3
      rw [Bool.and_true] at h3
      refine ⟨rfl, fun t h4 h5 => ?_⟩
      by_cases he : t = s
      · subst he; simpa using h3
      · exact h2 t (by omega) (by omega)

def okB (k : Nat) (xs : List Int) (n : Nat) (U : List Bool) (s : Nat) : Bool := U.getD s false && (bfs k xs n s false).met.getD s false
def wd0 (k : Nat) (xs : List Int) (n a : Nat) (s : Nat) : ByteArray := lw ((bfs k xs n a true).ws.getD s [])
def okE (k : Nat) (xs : List Int) (bs : List Bool) (a : Nat) (s : Nat) : Bool := bs.getD s false && (bfs k xs bs.length a true).met.getD s false
noncomputable def bestV (k : Nat) (xs : List Int) (bs : List Bool) : Option Nat := pick (okB k xs bs.length (useL k xs bs)) (wd0 k xs bs.length 0) bs.length 0 none
def endV (k : Nat) (xs : List Int) (bs : List Bool) (a : Nat) : Option Nat := pick (okE k xs bs a) (wd0 k xs bs.length a) bs.length 0 none
/-- Is the language finite? Else the three words. -/
noncomputable def boundV (k : Nat) (xs : List Int) (bs : List Bool) : Bool × ByteArray × ByteArray × ByteArray :=
  match bestV k xs bs with
  | none => (true, ByteArray.empty, ByteArray.empty, ByteArray.empty)
  | some b => (false, wd0 k xs bs.length 0 b, lw ((bfs k xs bs.length b false).ws.getD b []), wd0 k xs bs.length b ((endV k xs bs b).getD 0))

theorem slt_lt {a b : ByteArray} (h : (a.size : Int) < (b.size : Int)) : slt a b = true := by
  unfold slt; rw [decide_eq_true (by omega)]; rfl
theorem slt_eq {a b : ByteArray} (h2 : ((a.size : Int) == (b.size : Int)) = true) : slt a b = Op.bytesLess a.toList b.toList := by
  unfold slt
  have : a.size = b.size := by have := of_decide_eq_true (p := (a.size : Int) = b.size) (by simpa using h2); omega
  rw [decide_eq_false (by omega), Bool.false_or, decide_eq_true this, Bool.true_and]
theorem slt_gt {a b : ByteArray} (h : ¬ (a.size : Int) < (b.size : Int)) (h2 : ((a.size : Int) == (b.size : Int)) = false) : slt a b = false := by
  unfold slt
  have : a.size ≠ b.size := fun e => by rw [e] at h2; simp at h2
  rw [decide_eq_false (by omega), Bool.false_or, decide_eq_false this, Bool.false_and]

theorem loop37a {k : Nat} {xs : List Int} {bs : List Bool} (hG : Good k xs bs) {H0 : AHeap} {prot : Nat} {vN vA x4 x5 x3 : Value} {o4 o5 : Nat} {U : List Bool} (hU : U.length = bs.length) : ∀ (d i : Nat) (b : Option Nat) (H : AHeap), i + d = bs.length → (∀ t, b = some t → t < bs.length) →
    H[H0.length]? = some (bx k vN vA) → IsA H xs bs vN vA → H0.length < H.length → (∃ p o l, x3 = .pointer (some ⟨p, o, some l⟩)) →
    Own H 4 1 x4 (some o4) bs.length (bll U) → Own H 9 1 x5 (some o5) bs.length (sl (bfs k xs bs.length 0 true).ws) →
    ∃ H', lpInf (lpOf cfg a37 0 prot H0) ([.pointer (some ⟨H0.length, 0, some 3⟩), x3, x4, x5, .int .i64 (bi b), .int .i64 bs.length, .int .i64 i], H) =
      some (.exit 0, [.pointer (some ⟨H0.length, 0, some 3⟩), x3, x5, .int .i64 (bi (pick (okB k xs bs.length U) (wd0 k xs bs.length 0) d i b))], H') ∧ Stay none H H'
  | 0, i, b, H, hi, hb, hbx, hA, hH, ⟨p, o, l, hx3⟩, w4, w5 => by
    obtain ⟨a4, c4, rfl⟩ := w4.len
    obtain ⟨a5, c5, rfl⟩ := w5.len
    subst hx3
    exact ⟨H, lp_last (f37_L0_7 (by omega)), Stay.refl _ _⟩
  | d + 1, i, b, H, hi, hb, hbx, hA, hH, ⟨p, o, l, hx3⟩, w4, w5 => by
    have hn5 := hG.n5
    have hin : i < bs.length := by omega
    have hok := bfs_ok hG (show 0 < bs.length by omega) true
    obtain ⟨_, e, m1, m2⟩ := own_at T23 w4 (bl_at (show i < U.length by omega))
    cases e
    have fi : Fit .i64 ((i : Int) + 1) := fit64 (by omega) (by omega)
    obtain ⟨_, _, _, gx⟩ := fld3 hbx
    by_cases hu : U.getD i false = true
    · obtain ⟨x, y, pp, q, c, dd, H2, r1, rfl, rfl, r2, r3, r4, r5⟩ := c65 hG hin false H0.length H hA
      have hok2 := bfs_ok hG hin false
      have v4 := w4.stay r4 (fun id _ h => by cases h)
      have v5 := w5.stay r4 (fun id _ h => by cases h)
      obtain ⟨_, e, p1, p2⟩ := own_at T23 r3 (bl_at (show i < (bfs k xs bs.length i false).met.length by rw [hok2.lm]; exact hin))
      cases e
      have step : ∀ b' : Option Nat, b' = upd (okB k xs bs.length U) (wd0 k xs bs.length 0) i b → (∃ z, lpOf cfg a37 0 prot H0 ([.pointer (some ⟨H0.length, 0, some 3⟩), x3, x4, x5, .int .i64 (bi b), .int .i64 bs.length, .int .i64 i], H) = some (.inl z) ∧ z = ([.pointer (some ⟨H0.length, 0, some 3⟩), x3, x4, x5, .int .i64 (bi b'), .int .i64 bs.length, .int .i64 ((i : Int) + 1)], H2)) →
          ∃ H', lpInf (lpOf cfg a37 0 prot H0) ([.pointer (some ⟨H0.length, 0, some 3⟩), x3, x4, x5, .int .i64 (bi b), .int .i64 bs.length, .int .i64 i], H) =
            some (.exit 0, [.pointer (some ⟨H0.length, 0, some 3⟩), x3, x5, .int .i64 (bi (pick (okB k xs bs.length U) (wd0 k xs bs.length 0) (d + 1) i b))], H') ∧ Stay none H H' := fun b' hb' hz => by
        obtain ⟨z, hz1, rfl⟩ := hz
        obtain ⟨H', u1, u2⟩ := loop37a hG (prot := prot) (x3 := x3) hU d (i + 1) b' H2 (by omega) (fun t ht => by rw [hb'] at ht; rcases upd_some ht with ⟨rfl, _⟩ | h2; exact hin; exact hb t h2) (by rw [r4.2 _ hH (by simp)]; exact hbx) (hA.stay r4) (by omega) ⟨p, o, l, hx3⟩ v4 v5
        exact ⟨H', lp_next hz1 (by rw [pick, ← hb']; exact u1), r4.trans u2⟩
      obtain ⟨aN, cN, rfl⟩ := hA.n.len
      obtain ⟨aA, cA, rfl⟩ := hA.a.len
      obtain ⟨a4, c4, rfl⟩ := w4.len
      obtain ⟨a5, c5, rfl⟩ := w5.len
      subst hx3
      rw [hu] at m2
      by_cases hm : (bfs k xs bs.length i false).met.getD i false = true
      · rw [hm] at p2
        have hokt : okB k xs bs.length U i = true := by unfold okB; rw [hu, hm]; rfl
        cases b with
        | none => exact step (some i) ((upd_ok (b := none) (wd := wd0 k xs bs.length 0) hokt (v := true) rfl).symm) ⟨_, f37_L0_0 (by omega) m1 m2 rfl gx r1 p1 p2 rfl (by decide) fi, rfl⟩
        | some t =>
          have ht := hb t rfl
          obtain ⟨_, e, q1, q2⟩ := own_at T43 v5 (sl_at (show i < (bfs k xs bs.length 0 true).ws.length by rw [hok.lw]; exact hin))
          cases e
          obtain ⟨_, e, y1, y2⟩ := own_at T43 v5 (sl_at (show t < (bfs k xs bs.length 0 true).ws.length by rw [hok.lw]; exact ht))
          cases e
          have hbt : ¬ (bi (some t) < 0) := by simp only [bi]; omega
          by_cases h1 : ((wd0 k xs bs.length 0 i).size : Int) < ((wd0 k xs bs.length 0 t).size : Int)
          · exact step (some i) ((upd_ok (b := some t) (wd := wd0 k xs bs.length 0) hokt (v := true) (slt_lt h1)).symm) ⟨_, f37_L0_1 (by omega) m1 m2 rfl gx r1 p1 p2 rfl hbt q1 q2 y1 y2 h1 fi, rfl⟩
          · cases h2 : (((wd0 k xs bs.length 0 i).size : Int) == ((wd0 k xs bs.length 0 t).size : Int)) with
            | true =>
              have hs := slt_eq h2
              cases h3 : Op.bytesLess (wd0 k xs bs.length 0 i).toList (wd0 k xs bs.length 0 t).toList with
              | true => exact step (some i) ((upd_ok (b := some t) (wd := wd0 k xs bs.length 0) hokt (v := true) (hs.trans h3)).symm) ⟨_, f37_L0_2 (by omega) m1 m2 rfl gx r1 p1 p2 rfl hbt q1 q2 y1 y2 h1 q1 q2 y1 y2 h2 q1 q2 y1 y2 h3 fi, rfl⟩
              | false => exact step (some t) ((upd_ok (b := some t) (wd := wd0 k xs bs.length 0) hokt (v := false) (hs.trans h3)).symm) ⟨_, f37_L0_3 (by omega) m1 m2 rfl gx r1 p1 p2 rfl hbt q1 q2 y1 y2 h1 q1 q2 y1 y2 h2 q1 q2 y1 y2 h3 fi, rfl⟩
            | false => exact step (some t) ((upd_ok (b := some t) (wd := wd0 k xs bs.length 0) hokt (v := false) (slt_gt h1 h2)).symm) ⟨_, f37_L0_4 (by omega) m1 m2 rfl gx r1 p1 p2 rfl hbt q1 q2 y1 y2 h1 q1 q2 y1 y2 h2 fi, rfl⟩
      · have hm : (bfs k xs bs.length i false).met.getD i false = false := by simpa using hm
        rw [hm] at p2
        exact step b (by unfold upd okB; rw [hm, Bool.and_false, Bool.false_and]; rfl) ⟨_, f37_L0_5 (by omega) m1 m2 rfl gx r1 p1 p2 rfl fi, rfl⟩
    · have hu : U.getD i false = false := by simpa using hu
      obtain ⟨H', u1, u2⟩ := loop37a hG (prot := prot) (x3 := x3) hU d (i + 1) b H (by omega) hb hbx hA hH ⟨p, o, l, hx3⟩ w4 w5
      obtain ⟨a4, c4, rfl⟩ := w4.len
      obtain ⟨a5, c5, rfl⟩ := w5.len
      subst hx3
      rw [hu] at m2
      refine ⟨H', lp_next (f37_L0_6 (by omega) m1 m2 rfl fi) ?_, u2⟩
      have : upd (okB k xs bs.length U) (wd0 k xs bs.length 0) i b = b := by unfold upd okB; rw [hu, Bool.false_and, Bool.false_and]; rfl
      rw [pick, this]
      exact u1

theorem loop37b {k a : Nat} {xs : List Int} {bs : List Bool} (hG : Good k xs bs) (ha : a < bs.length) {H0 H : AHeap} {prot : Nat} {vN vA x3 x5 x11 x13 x14 : Value} {x7 : Int} {o13 o14 : Nat} (hbx : H[H0.length]? = some (bx k vN vA)) (hA : IsA H xs bs vN vA)
    (h3 : ∃ p o l, x3 = .pointer (some ⟨p, o, some l⟩)) (h5 : ∃ p n c, x5 = .slice p n c) (h11 : ∃ p n c, x11 = .slice p n c)
    (w13 : Own H 9 1 x13 (some o13) bs.length (sl (bfs k xs bs.length a true).ws)) (w14 : Own H 4 1 x14 (some o14) bs.length (bll (bfs k xs bs.length a true).met)) : ∀ (d i : Nat) (b : Option Nat), i + d = bs.length → (∀ t, b = some t → t < bs.length) →
    lpInf (lpOf cfg a37 1 prot H0) ([.pointer (some ⟨H0.length, 0, some 3⟩), x3, x5, .int .i64 x7, x11, x13, x14, .int .i64 (bi b), .int .i64 bs.length, .int .i64 i], H) =
      some (.exit 2, [x3, x5, .int .i64 x7, x11, x13, .int .i64 (bi (pick (okE k xs bs a) (wd0 k xs bs.length a) d i b))], H)
  | 0, i, b, hi, hb => by
    obtain ⟨p, o, l, rfl⟩ := h3
    obtain ⟨_, _, _, rfl⟩ := h5
    obtain ⟨_, _, _, rfl⟩ := h11
    obtain ⟨_, _, rfl⟩ := w13.len
    obtain ⟨_, _, rfl⟩ := w14.len
    exact lp_last (f37_L1_7 (by omega))
  | d + 1, i, b, hi, hb => by
    have hn5 := hG.n5
    have hin : i < bs.length := by omega
    have hok := bfs_ok hG ha true
    have ih := fun b' hb' => loop37b hG ha (prot := prot) hbx hA h3 h5 h11 w13 w14 (x7 := x7) d (i + 1) b' (by omega) hb'
    obtain ⟨idA, LA, n1, n2⟩ := rd_at T23 hA.a (bl_at hin)
    have fi : Fit .i64 ((i : Int) + 1) := fit64 (by omega) (by omega)
    obtain ⟨_, e, p1, p2⟩ := own_at T23 w14 (bl_at (show i < (bfs k xs bs.length a true).met.length by rw [hok.lm]; exact hin))
    cases e
    have step : ∀ b' : Option Nat, b' = upd (okE k xs bs a) (wd0 k xs bs.length a) i b → lpOf cfg a37 1 prot H0 ([.pointer (some ⟨H0.length, 0, some 3⟩), x3, x5, .int .i64 x7, x11, x13, x14, .int .i64 (bi b), .int .i64 bs.length, .int .i64 i], H) = some (.inl ([.pointer (some ⟨H0.length, 0, some 3⟩), x3, x5, .int .i64 x7, x11, x13, x14, .int .i64 (bi b'), .int .i64 bs.length, .int .i64 ((i : Int) + 1)], H)) →
        lpInf (lpOf cfg a37 1 prot H0) ([.pointer (some ⟨H0.length, 0, some 3⟩), x3, x5, .int .i64 x7, x11, x13, x14, .int .i64 (bi b), .int .i64 bs.length, .int .i64 i], H) =
          some (.exit 2, [x3, x5, .int .i64 x7, x11, x13, .int .i64 (bi (pick (okE k xs bs a) (wd0 k xs bs.length a) (d + 1) i b))], H) := fun b' hb' hz => by
      have := ih b' (fun t ht => by rw [hb'] at ht; rcases upd_some ht with ⟨rfl, _⟩ | h2; exact hin; exact hb t h2)
      exact lp_next hz (by rw [pick, ← hb']; exact this)
    obtain ⟨p, o, l, rfl⟩ := h3
    obtain ⟨_, _, _, rfl⟩ := h5
    obtain ⟨_, _, _, rfl⟩ := h11
    have w13' := w13
    obtain ⟨_, _, rfl⟩ := w13.len
    obtain ⟨_, _, rfl⟩ := w14.len
    obtain ⟨aN, cN, rfl⟩ := hA.n.len
    obtain ⟨aA, cA, rfl⟩ := hA.a.len
    obtain ⟨_, _, g2, _⟩ := fld3 hbx
    by_cases hu : bs.getD i false = true
    · rw [hu] at n2
      by_cases hm : (bfs k xs bs.length a true).met.getD i false = true
      · rw [hm] at p2
        have hokt : okE k xs bs a i = true := by unfold okE; rw [hu, hm]; rfl
        cases b with
        | none => exact step (some i) ((upd_ok (b := none) (wd := wd0 k xs bs.length a) hokt (v := true) rfl).symm) (f37_L1_0 (by omega) g2 n1 n2 rfl p1 p2 rfl (by decide) fi)
        | some t =>
          have ht := hb t rfl
          obtain ⟨_, e, q1, q2⟩ := own_at T43 w13' (sl_at (show i < (bfs k xs bs.length a true).ws.length by rw [hok.lw]; exact hin))
          cases e
          obtain ⟨_, e, y1, y2⟩ := own_at T43 w13' (sl_at (show t < (bfs k xs bs.length a true).ws.length by rw [hok.lw]; exact ht))
          cases e
          have hbt : ¬ (bi (some t) < 0) := by simp only [bi]; omega
          by_cases h1 : ((wd0 k xs bs.length a i).size : Int) < ((wd0 k xs bs.length a t).size : Int)
          · exact step (some i) ((upd_ok (b := some t) (wd := wd0 k xs bs.length a) hokt (v := true) (slt_lt h1)).symm) (f37_L1_1 (by omega) g2 n1 n2 rfl p1 p2 rfl hbt q1 q2 y1 y2 h1 fi)
          · cases h2 : (((wd0 k xs bs.length a i).size : Int) == ((wd0 k xs bs.length a t).size : Int)) with
            | true =>
              have hs := slt_eq h2
              cases h3 : Op.bytesLess (wd0 k xs bs.length a i).toList (wd0 k xs bs.length a t).toList with
              | true => exact step (some i) ((upd_ok (b := some t) (wd := wd0 k xs bs.length a) hokt (v := true) (hs.trans h3)).symm) (f37_L1_2 (by omega) g2 n1 n2 rfl p1 p2 rfl hbt q1 q2 y1 y2 h1 q1 q2 y1 y2 h2 q1 q2 y1 y2 h3 fi)
              | false => exact step (some t) ((upd_ok (b := some t) (wd := wd0 k xs bs.length a) hokt (v := false) (hs.trans h3)).symm) (f37_L1_3 (by omega) g2 n1 n2 rfl p1 p2 rfl hbt q1 q2 y1 y2 h1 q1 q2 y1 y2 h2 q1 q2 y1 y2 h3 fi)
            | false => exact step (some t) ((upd_ok (b := some t) (wd := wd0 k xs bs.length a) hokt (v := false) (slt_gt h1 h2)).symm) (f37_L1_4 (by omega) g2 n1 n2 rfl p1 p2 rfl hbt q1 q2 y1 y2 h1 q1 q2 y1 y2 h2 fi)
      · have hm : (bfs k xs bs.length a true).met.getD i false = false := by simpa using hm
        rw [hm] at p2
        exact step b ((upd_no (by unfold okE; rw [hm, Bool.and_false])).symm) (f37_L1_5 (by omega) g2 n1 n2 rfl p1 p2 rfl fi)
    · have hu : bs.getD i false = false := by simpa using hu
      rw [hu] at n2
      exact step b ((upd_no (by unfold okE; rw [hu, Bool.false_and])).symm) (f37_L1_6 (by omega) g2 n1 n2 rfl fi)

/-- Where there is a best state there is an end. -/
theorem best_end {k : Nat} {xs : List Int} {bs : List Bool} (hG : Good k xs bs) {b : Nat} (h : bestV k xs bs = some b) : b < bs.length ∧ okB k xs bs.length (useL k xs bs) b = true ∧ ∃ e, endV k xs bs b = some e ∧ e < bs.length ∧ okE k xs bs b e = true := by
  rcases pick_some _ _ _ h with ⟨_, h2, h3⟩ | h1
  · have hb : b < bs.length := by omega
    refine ⟨hb, h3, ?_⟩
    have hu : (useL k xs bs).getD b false = true := by unfold okB at h3; exact (Bool.and_eq_true _ _ ▸ h3).1
    rw [useL_at hb] at hu
    have hh : (hopeL k xs bs).getD b false = true := (Bool.and_eq_true _ _ ▸ hu).2
    rw [List.getD_eq_getElem?_getD, List.getElem?_eq_getElem (by rw [hopeL_len]; exact hb), Option.getD_some, hopeL_get] at hh
    obtain ⟨w, hw, ha⟩ := @of_decide_eq_true _ (Classical.propDecidable _) hh
    cases he : endV k xs bs b with
    | some e =>
      rcases pick_some _ _ _ he with ⟨_, h5, h6⟩ | h5
      · exact ⟨e, rfl, by omega, h6⟩
      · cases h5
    | none =>
      obtain ⟨_, h5⟩ := pick_none _ _ _ he
      have hl := go_lt hG w b hw hb
      have := h5 _ (Nat.zero_le _) (by omega : go k xs b w < 0 + bs.length)
      unfold okE at this
      rw [ha, Bool.true_and, (bfs_met hG hb true _).2 ⟨w, hw, rfl, fun h => by cases h⟩] at this
      cases this
  · cases h1
end Go.Proofs.Ythjkodbinkiifaa.Am23
set_option linter.unusedVariables false
open Go Go.Proofs.Ythjkodbinkiifaa.Am
namespace Go.Proofs.Ythjkodbinkiifaa.Am23
end Go.Proofs.Ythjkodbinkiifaa.Am23
namespace Go.Proofs.Ythjkodbinkiifaa.Am23
open Go Go.Proofs.Ythjkodbinkiifaa.Am

theorem setAll3 {H : AHeap} {p prot : Nat} {a b c x y z : Value} {e : TypeId} (h : H[p]? = some (.cells [a, b, c] e 3 .var)) (hp : prot ≤ p) (hv : [x, y, z].all isCell = true) : setCells H prot p 3 0 [x, y, z] = some (H.set p (.cells [x, y, z] e 3 .var)) := by
  unfold setCells
  rw [h]
  simp only
  rw [if_pos ⟨rfl, hp, rfl, by simp, hv⟩]
  rfl

theorem gc_agg {H H' : AHeap} {cs : Array Value} (h : plain1 (.agg cs) = false) : gc H [.agg cs] H' = (.agg cs, H') := by
  unfold gc
  have : keepAll H.length H' [.agg cs] [] = none := by
    simp only [keepAll, keep1]
    rw [if_neg (by rw [h]; simp)]
    rfl
  rw [this]
  split <;> rfl

end Go.Proofs.Ythjkodbinkiifaa.Am23
set_option linter.unusedVariables false
open Go Go.Proofs.Ythjkodbinkiifaa.Am
namespace Go.Proofs.Ythjkodbinkiifaa.Am23
theorem f13_F_0 {x0a : Int} {x0ba : Option Addr} {x0bn x0bc : Nat} {x0ca : Option Addr} {x0cn x0cc : Nat} {H : AHeap} {prot : Nat} {x8a : Int} {x8ba : Option Addr} {x8bn x8bc : Nat} {x8ca : Option Addr} {x8cn x8cc : Nat} {x9 : Int} {H1 : AHeap} {wa wb wc : ByteArray} (h1 : [Value.int .i64 x0a, Value.slice x0ba x0bn x0bc, Value.slice x0ca x0cn x0cc].all isCell = true) (h2 : getCells (H ++ [vo [Value.int .i64 x0a, Value.slice x0ba x0bn x0bc, Value.slice x0ca x0cn x0cc] 25] ++ [vo [Value.string { data := { toList := [] } }, Value.string { data := { toList := [] } }, Value.string { data := { toList := [] } }] 29]) (List.length H) [Value.int .i64 x0a, Value.slice x0ba x0bn x0bc, Value.slice x0ca x0cn x0cc].length 0 3 = some [Value.int .i64 x8a, Value.slice x8ba x8bn x8bc, Value.slice x8ca x8cn x8cc]) (h3 : callInf cfg 36 [Value.agg { toList := [Value.int .i64 x8a, Value.slice x8ba x8bn x8bc, Value.slice x8ca x8cn x8cc] }] (List.length H) (H ++ [vo [Value.int .i64 x0a, Value.slice x0ba x0bn x0bc, Value.slice x0ca x0cn x0cc] 25] ++ [vo [Value.string { data := { toList := [] } }, Value.string { data := { toList := [] } }, Value.string { data := { toList := [] } }] 29]) = some (Value.int .i64 x9, H ++ [vo [Value.int .i64 x0a, Value.slice x0ba x0bn x0bc, Value.slice x0ca x0cn x0cc] 25] ++ [vo [Value.string { data := { toList := [] } }, Value.string { data := { toList := [] } }, Value.string { data := { toList := [] } }] 29])) (h4 : (x9 != 0) = true) (h5 : [Value.string { data := { toList := [] } }, Value.string { data := { toList := [] } }, Value.string { data := { toList := [] } }].length = 3) (h6 : setCells (H ++ [vo [Value.int .i64 x0a, Value.slice x0ba x0bn x0bc, Value.slice x0ca x0cn x0cc] 25] ++ [vo [Value.string { data := { toList := [] } }, Value.string { data := { toList := [] } }, Value.string { data := { toList := [] } }] 29]) (List.length H) (List.length (H ++ [vo [Value.int .i64 x0a, Value.slice x0ba x0bn x0bc, Value.slice x0ca x0cn x0cc] 25])) [Value.string { data := { toList := [] } }, Value.string { data := { toList := [] } }, Value.string { data := { toList := [] } }].length 0 [Value.string { data := { toList := [] } }, Value.string { data := { toList := [] } }, Value.string { data := { toList := [] } }] = some H1) (h7 : getCells H1 (List.length (H ++ [vo [Value.int .i64 x0a, Value.slice x0ba x0bn x0bc, Value.slice x0ca x0cn x0cc] 25])) [Value.string { data := { toList := [] } }, Value.string { data := { toList := [] } }, Value.string { data := { toList := [] } }].length 0 3 = some [Value.string wa, Value.string wb, Value.string wc]) : callInf cfg 13 [.agg #[.int .i64 x0a, .slice x0ba x0bn x0bc, .slice x0ca x0cn x0cc]] prot H = some (Value.tuple { toList := [Value.bool false, Value.agg { toList := [Value.string wa, Value.string wb, Value.string wc] }, Value.int .i64 x9] }, H) :=
  fn_of2 a13 [.e, .e, .v (.agg #[.int .i64 x8a, .slice x8ba x8bn x8bc, .slice x8ca x8cn x8cc]), .v (.int .i64 x9), .e, .b true, .e, .h H1, .v (.agg #[.string wa, .string wb, .string wc])] (ai h1 (ai h2 (ai h3 (ai h4 (ai h5 (ai h6 (ai h7 (Eq.refl ((Value.tuple { toList := [Value.bool false, Value.agg { toList := [Value.string wa, Value.string wb, Value.string wc] }, Value.int .i64 x9] }, H) : Value × AHeap))))))))) (by kernel_rfl) rfl
theorem f13_F_1 {x0a : Int} {x0ba : Option Addr} {x0bn x0bc : Nat} {x0ca : Option Addr} {x0cn x0cc : Nat} {H : AHeap} {prot : Nat} {x8a : Int} {x8ba : Option Addr} {x8bn x8bc : Nat} {x8ca : Option Addr} {x8cn x8cc : Nat} {x9 x15a : Int} {x15ba : Option Addr} {x15bn x15bc : Nat} {x15ca : Option Addr} {x15cn x15cc : Nat} {x16a : Bool} {x16ba x16bb x16bc : ByteArray} {H1 : AHeap} {x20a x20b x20c : ByteArray} {H2 : AHeap} {wa wb wc : ByteArray} (h1 : [Value.int .i64 x0a, Value.slice x0ba x0bn x0bc, Value.slice x0ca x0cn x0cc].all isCell = true) (h2 : getCells (H ++ [vo [Value.int .i64 x0a, Value.slice x0ba x0bn x0bc, Value.slice x0ca x0cn x0cc] 25] ++ [vo [Value.string { data := { toList := [] } }, Value.string { data := { toList := [] } }, Value.string { data := { toList := [] } }] 29]) (List.length H) [Value.int .i64 x0a, Value.slice x0ba x0bn x0bc, Value.slice x0ca x0cn x0cc].length 0 3 = some [Value.int .i64 x8a, Value.slice x8ba x8bn x8bc, Value.slice x8ca x8cn x8cc]) (h3 : callInf cfg 36 [Value.agg { toList := [Value.int .i64 x8a, Value.slice x8ba x8bn x8bc, Value.slice x8ca x8cn x8cc] }] (List.length H) (H ++ [vo [Value.int .i64 x0a, Value.slice x0ba x0bn x0bc, Value.slice x0ca x0cn x0cc] 25] ++ [vo [Value.string { data := { toList := [] } }, Value.string { data := { toList := [] } }, Value.string { data := { toList := [] } }] 29]) = some (Value.int .i64 x9, H ++ [vo [Value.int .i64 x0a, Value.slice x0ba x0bn x0bc, Value.slice x0ca x0cn x0cc] 25] ++ [vo [Value.string { data := { toList := [] } }, Value.string { data := { toList := [] } }, Value.string { data := { toList := [] } }] 29])) (h4 : (x9 != 0) = false) (h5 : getCells (H ++ [vo [Value.int .i64 x0a, Value.slice x0ba x0bn x0bc, Value.slice x0ca x0cn x0cc] 25] ++ [vo [Value.string { data := { toList := [] } }, Value.string { data := { toList := [] } }, Value.string { data := { toList := [] } }] 29]) (List.length H) [Value.int .i64 x0a, Value.slice x0ba x0bn x0bc, Value.slice x0ca x0cn x0cc].length 0 3 = some [Value.int .i64 x15a, Value.slice x15ba x15bn x15bc, Value.slice x15ca x15cn x15cc]) (h6 : callInf cfg 37 [Value.agg { toList := [Value.int .i64 x15a, Value.slice x15ba x15bn x15bc, Value.slice x15ca x15cn x15cc] }] (List.length H) (H ++ [vo [Value.int .i64 x0a, Value.slice x0ba x0bn x0bc, Value.slice x0ca x0cn x0cc] 25] ++ [vo [Value.string { data := { toList := [] } }, Value.string { data := { toList := [] } }, Value.string { data := { toList := [] } }] 29]) = some (Value.tuple { toList := [Value.bool x16a, Value.agg { toList := [Value.string x16ba, Value.string x16bb, Value.string x16bc] }] }, H ++ [vo [Value.int .i64 x0a, Value.slice x0ba x0bn x0bc, Value.slice x0ca x0cn x0cc] 25] ++ [vo [Value.string { data := { toList := [] } }, Value.string { data := { toList := [] } }, Value.string { data := { toList := [] } }] 29])) (h7 : [Value.string x16ba, Value.string x16bb, Value.string x16bc].length = 3) (h8 : setCells (H ++ [vo [Value.int .i64 x0a, Value.slice x0ba x0bn x0bc, Value.slice x0ca x0cn x0cc] 25] ++ [vo [Value.string { data := { toList := [] } }, Value.string { data := { toList := [] } }, Value.string { data := { toList := [] } }] 29] ++ [vo [Value.string { data := { toList := [] } }, Value.string { data := { toList := [] } }, Value.string { data := { toList := [] } }] 29]) (List.length H) (List.length (H ++ [vo [Value.int .i64 x0a, Value.slice x0ba x0bn x0bc, Value.slice x0ca x0cn x0cc] 25] ++ [vo [Value.string { data := { toList := [] } }, Value.string { data := { toList := [] } }, Value.string { data := { toList := [] } }] 29])) [Value.string { data := { toList := [] } }, Value.string { data := { toList := [] } }, Value.string { data := { toList := [] } }].length 0 [Value.string x16ba, Value.string x16bb, Value.string x16bc] = some H1) (h9 : getCells H1 (List.length (H ++ [vo [Value.int .i64 x0a, Value.slice x0ba x0bn x0bc, Value.slice x0ca x0cn x0cc] 25] ++ [vo [Value.string { data := { toList := [] } }, Value.string { data := { toList := [] } }, Value.string { data := { toList := [] } }] 29])) [Value.string { data := { toList := [] } }, Value.string { data := { toList := [] } }, Value.string { data := { toList := [] } }].length 0 3 = some [Value.string x20a, Value.string x20b, Value.string x20c]) (h10 : [Value.string x20a, Value.string x20b, Value.string x20c].length = 3) (h11 : setCells H1 (List.length H) (List.length (H ++ [vo [Value.int .i64 x0a, Value.slice x0ba x0bn x0bc, Value.slice x0ca x0cn x0cc] 25])) [Value.string { data := { toList := [] } }, Value.string { data := { toList := [] } }, Value.string { data := { toList := [] } }].length 0 [Value.string x20a, Value.string x20b, Value.string x20c] = some H2) (h12 : getCells H2 (List.length (H ++ [vo [Value.int .i64 x0a, Value.slice x0ba x0bn x0bc, Value.slice x0ca x0cn x0cc] 25])) [Value.string { data := { toList := [] } }, Value.string { data := { toList := [] } }, Value.string { data := { toList := [] } }].length 0 3 = some [Value.string wa, Value.string wb, Value.string wc]) : callInf cfg 13 [.agg #[.int .i64 x0a, .slice x0ba x0bn x0bc, .slice x0ca x0cn x0cc]] prot H = some (Value.tuple { toList := [Value.bool x16a, Value.agg { toList := [Value.string wa, Value.string wb, Value.string wc] }, Value.int .i64 0] }, H) :=
  fn_of2 a13 [.e, .e, .v (.agg #[.int .i64 x8a, .slice x8ba x8bn x8bc, .slice x8ca x8cn x8cc]), .v (.int .i64 x9), .e, .b false, .v (.agg #[.int .i64 x15a, .slice x15ba x15bn x15bc, .slice x15ca x15cn x15cc]), .v (.tuple #[.bool x16a, .agg #[.string x16ba, .string x16bb, .string x16bc]]), .e, .h H1, .v (.agg #[.string x20a, .string x20b, .string x20c]), .h H2, .v (.agg #[.string wa, .string wb, .string wc])] (ai h1 (ai h2 (ai h3 (ai h4 (ai h5 (ai h6 (ai h7 (ai h8 (ai h9 (ai h10 (ai h11 (ai h12 (Eq.refl ((Value.tuple { toList := [Value.bool x16a, Value.agg { toList := [Value.string wa, Value.string wb, Value.string wc] }, Value.int .i64 0] }, H) : Value × AHeap)))))))))))))) (by kernel_rfl) rfl
end Go.Proofs.Ythjkodbinkiifaa.Am23
namespace Go.Proofs.Ythjkodbinkiifaa.Am23
open Go Go.Proofs.Ythjkodbinkiifaa.Am

abbrev pv (v : ByteArray × ByteArray × ByteArray) : Value := .agg #[.string v.1, .string v.2.1, .string v.2.2]
theorem set3s {H : AHeap} {p prot : Nat} {a b c x y z : Value} {e : TypeId} (h : H[p]? = some (.cells [a, b, c] e 3 .var)) (hp : prot ≤ p) (hv : [x, y, z].all isCell = true) :
    ∃ H', setCells H prot p 3 0 [x, y, z] = some H' ∧ getCells H' p 3 0 3 = some [x, y, z] ∧ Stay (some p) H H' ∧ H'[p]? = some (.cells [x, y, z] e 3 .var) := by
  have hl := (List.getElem?_eq_some_iff.1 h).1
  have hg : (H.set p (.cells [x, y, z] e 3 .var))[p]? = some (.cells [x, y, z] e 3 .var) := List.getElem?_set_self hl
  exact ⟨_, setAll3 h hp hv, (fld3 hg).2.2.2, ⟨by simp, fun q _ hq => List.getElem?_set_ne (fun e => hq (by rw [e]))⟩, hg⟩

theorem c37 {k : Nat} {xs : List Int} {bs : List Bool} {vN vA : Value} (hG : Good k xs bs) (prot : Nat) (H : AHeap) (hA : IsA H xs bs vN vA) :
    callInf cfg 37 [av k vN vA] prot H = some (.tuple #[.bool (boundV k xs bs).1, pv (boundV k xs bs).2], H) := by
  have hb1 := hG.n1
  have hb5 := hG.n5
  obtain ⟨B0, hB0⟩ : ∃ B0, B0 = AObj.cells [.string ByteArray.empty, .string ByteArray.empty, .string ByteArray.empty] 29 3 .var := ⟨_, rfl⟩
  obtain ⟨HX, hHX⟩ : ∃ HX, HX = H ++ [bx k vN vA] ++ [B0] := ⟨_, rfl⟩
  have lX : HX.length = H.length + 2 := by rw [hHX]; simp
  have sX : Stay none H HX := by rw [hHX]; exact (Stay.app none H _).trans (Stay.app none _ _)
  have hgX : HX[H.length]? = some (bx k vN vA) := by rw [hHX, List.getElem?_append_left (by simp)]; exact append_get.1
  have hgX1 : HX[H.length + 1]? = some B0 := by rw [hHX, List.getElem?_append_right (by simp)]; simp
  have hAX := hA.stay sX
  obtain ⟨p1, d1, H1, r1, r2, r3⟩ := c53 hG H.length HX hAX
  obtain ⟨x, y, p2, q2, c2, d2, H2, s1, rfl, rfl, s2, s3, s4, s5⟩ := c65 hG (a := 0) (by omega) true H.length H1 (hAX.stay r3)
  have hg1 : H1[H.length]? = some (bx k vN vA) := by rw [r3.2 _ (by omega) (by simp)]; exact hgX
  have st2 := r3.trans s4
  have hg2 : H2[H.length]? = some (bx k vN vA) := by rw [st2.2 _ (by omega) (by simp)]; exact hgX
  have l2 := st2.1
  obtain ⟨H3, t1, t2⟩ := loop37a hG (prot := prot) (x3 := .pointer (some ⟨H.length + 1, 0, some 3⟩)) (useL_len k xs bs) bs.length 0 none H2 (by omega) (fun t h => by cases h) hg2 (hAX.stay st2) (by omega) ⟨_, _, _, rfl⟩ (r2.stay s4 (fun id _ h => by cases h)) s2
  have st3 := st2.trans t2
  have l3 := st3.1
  have hg3 : H3[H.length]? = some (bx k vN vA) := by rw [st3.2 _ (by omega) (by simp)]; exact hgX
  have hg31 : H3[H.length + 1]? = some B0 := by rw [st3.2 _ (by omega) (by simp)]; exact hgX1
  have hA3 := hAX.stay st3
  rw [show pick (okB k xs bs.length (useL k xs bs)) (wd0 k xs bs.length 0) bs.length 0 none = bestV k xs bs from rfl] at t1
  have e1 : (H ++ [bx k vN vA]).length = H.length + 1 := by simp
  obtain ⟨aN, cN, rfl⟩ := hA.n.len
  obtain ⟨aA, cA, rfl⟩ := hA.a.len
  obtain ⟨_, _, _, gX⟩ := fld3 hgX
  obtain ⟨_, _, _, g1⟩ := fld3 hg1
  cases hbv : bestV k xs bs with
  | none =>
    rw [hbv] at t1
    rw [hB0] at hg31
    obtain ⟨H4, u1, u2, _, _⟩ := set3s hg31 (show H.length ≤ H.length + 1 by omega) (x := .string ByteArray.empty) (y := .string ByteArray.empty) (z := .string ByteArray.empty) rfl
    have hv : boundV k xs bs = (true, ByteArray.empty, ByteArray.empty, ByteArray.empty) := by unfold boundV; rw [hbv]
    rw [hv]
    subst hHX; subst hB0
    rw [← e1] at t1 u1 u2
    exact f37_F_0 all3 gX r1 g1 s1 t1 (by decide) rfl u1 u2
  | some b =>
    rw [hbv] at t1
    obtain ⟨hb, _, e, he1, he2, he3⟩ := best_end hG hbv
    obtain ⟨x4, y4, p4, q4, c4, d4, H4, v1, rfl, rfl, v2, v3, v4, v5⟩ := c65 hG hb false H.length H3 hA3
    obtain ⟨x5, y5, p5, q5, c5, d5, H5, w1, rfl, rfl, w2, w3, w4, w5⟩ := c65 hG hb true H.length H4 (hA3.stay v4)
    have st5 := st3.trans (v4.trans w4)
    have l5 := st5.1
    have hg4 : H4[H.length]? = some (bx k (.slice aN xs.length cN) (.slice aA bs.length cA)) := by rw [(st3.trans v4).2 _ (by omega) (by simp)]; exact hgX
    have hg5 : H5[H.length]? = some (bx k (.slice aN xs.length cN) (.slice aA bs.length cA)) := by rw [st5.2 _ (by omega) (by simp)]; exact hgX
    have hg51 : H5[H.length + 1]? = some B0 := by rw [st5.2 _ (by omega) (by simp)]; exact hgX1
    have hA5 := hAX.stay st5
    have hl := loop37b hG hb (prot := prot) (x3 := .pointer (some ⟨H.length + 1, 0, some 3⟩)) (x5 := .slice p2 bs.length c2) (x11 := .slice p4 bs.length c4) (x7 := (b : Int)) hg5 hA5 ⟨_, _, _, rfl⟩ ⟨_, _, _, rfl⟩ ⟨_, _, _, rfl⟩ w2 w3 bs.length 0 none (by omega) (fun t h => by cases h)
    rw [show pick (okE k xs bs b) (wd0 k xs bs.length b) bs.length 0 none = endV k xs bs b from rfl, he1] at hl
    have hok0 := bfs_ok hG (show 0 < bs.length by omega) true
    have hokf := bfs_ok hG hb false
    have hokt := bfs_ok hG hb true
    have o5 := s2.stay (t2.trans (v4.trans w4)) (fun id _ h => by cases h)
    have o11 := v2.stay w4 (fun id _ h => by cases h)
    obtain ⟨_, ee, y1, y2⟩ := own_at T43 o5 (sl_at (show b < (bfs k xs bs.length 0 true).ws.length by rw [hok0.lw]; exact hb))
    cases ee
    obtain ⟨_, ee, z1, z2⟩ := own_at T43 o11 (sl_at (show b < (bfs k xs bs.length b false).ws.length by rw [hokf.lw]; exact hb))
    cases ee
    obtain ⟨_, ee, q1, q2'⟩ := own_at T43 w2 (sl_at (show e < (bfs k xs bs.length b true).ws.length by rw [hokt.lw]; exact he2))
    cases ee
    rw [hB0] at hg51
    obtain ⟨H6, u1, u2, _, _⟩ := set3s hg51 (show H.length ≤ H.length + 1 by omega) (x := .string (wd0 k xs bs.length 0 b)) (y := .string (lw ((bfs k xs bs.length b false).ws.getD b []))) (z := .string (wd0 k xs bs.length b e)) rfl
    have hv : boundV k xs bs = (false, wd0 k xs bs.length 0 b, lw ((bfs k xs bs.length b false).ws.getD b []), wd0 k xs bs.length b e) := by unfold boundV; rw [hbv]; simp only; rw [he1]; rfl
    rw [hv]
    obtain ⟨_, _, _, g3⟩ := fld3 hg3
    obtain ⟨_, _, _, g4⟩ := fld3 hg4
    obtain ⟨_, _, g5, _⟩ := fld3 hg5
    subst hHX; subst hB0
    rw [← e1] at t1 u1 u2 hl
    exact f37_F_1 all3 gX r1 g1 s1 t1 (by simp only [bi]; omega) g3 v1 g4 w1 g5 hl y1 y2 z1 z2 q1 q2' rfl u1 u2

/-- What Finite answers. -/
noncomputable def finV (k : Int) (xs : List Int) (bs : List Bool) : Bool × (ByteArray × ByteArray × ByteArray) × Int :=
  if chkG k xs bs = 0 then ((boundV k.toNat xs bs).1, (boundV k.toNat xs bs).2, 0) else (false, (ByteArray.empty, ByteArray.empty, ByteArray.empty), chkG k xs bs)
theorem c13 {k : Int} {xs : List Int} {bs : List Bool} {vN vA : Value} (prot : Nat) (H : AHeap) (hA : IsA H xs bs vN vA) :
    callInf cfg 13 [av k vN vA] prot H = some (.tuple #[.bool (finV k xs bs).1, pv (finV k xs bs).2.1, .int .i64 (finV k xs bs).2.2], H) := by
  obtain ⟨B0, hB0⟩ : ∃ B0, B0 = AObj.cells [.string ByteArray.empty, .string ByteArray.empty, .string ByteArray.empty] 29 3 .var := ⟨_, rfl⟩
  obtain ⟨HX, hHX⟩ : ∃ HX, HX = H ++ [bx k vN vA] ++ [B0] := ⟨_, rfl⟩
  have lX : HX.length = H.length + 2 := by rw [hHX]; simp
  have sX : Stay none H HX := by rw [hHX]; exact (Stay.app none H _).trans (Stay.app none _ _)
  have hgX : HX[H.length]? = some (bx k vN vA) := by rw [hHX, List.getElem?_append_left (by simp)]; exact append_get.1
  have hgX1 : HX[H.length + 1]? = some B0 := by rw [hHX, List.getElem?_append_right (by simp)]; simp
  have hAX := hA.stay sX
  have hck := c36 (k := k) H.length HX hAX
  have e1 : (H ++ [bx k vN vA]).length = H.length + 1 := by simp
  by_cases h0 : chkG k xs bs = 0
  · obtain ⟨k', rfl, hG⟩ := good_of h0
    have hb := c37 hG H.length HX hAX
    have hv : finV k' xs bs = ((boundV k' xs bs).1, (boundV k' xs bs).2, 0) := by unfold finV; rw [if_pos h0, Int.toNat_natCast]
    rw [hv]
    rw [h0] at hck
    obtain ⟨aN, cN, rfl⟩ := hA.n.len
    obtain ⟨aA, cA, rfl⟩ := hA.a.len
    obtain ⟨_, _, _, gX⟩ := fld3 hgX
    have hgY : (HX ++ [B0])[HX.length]? = some B0 := append_get.1
    rw [hB0] at hgY
    obtain ⟨H1, u1, u2, u3, _⟩ := set3s hgY (show H.length ≤ HX.length by omega) (x := .string (boundV k' xs bs).2.1) (y := .string (boundV k' xs bs).2.2.1) (z := .string (boundV k' xs bs).2.2.2) rfl
    have hg1 : H1[H.length + 1]? = some B0 := by
      rw [u3.2 _ (by simp; omega) (fun h => by have := Option.some.inj h; omega), List.getElem?_append_left (by omega)]; exact hgX1
    rw [hB0] at hg1
    obtain ⟨H2, v1, v2, v3, _⟩ := set3s hg1 (show H.length ≤ H.length + 1 by omega) (x := .string (boundV k' xs bs).2.1) (y := .string (boundV k' xs bs).2.2.1) (z := .string (boundV k' xs bs).2.2.2) rfl
    subst hHX; subst hB0
    rw [← e1] at v1 v2
    exact f13_F_1 all3 gX hck rfl gX hb rfl u1 u2 rfl v1 v2
  · have hv : finV k xs bs = (false, (ByteArray.empty, ByteArray.empty, ByteArray.empty), chkG k xs bs) := by unfold finV; rw [if_neg h0]
    rw [hv]
    obtain ⟨aN, cN, rfl⟩ := hA.n.len
    obtain ⟨aA, cA, rfl⟩ := hA.a.len
    obtain ⟨_, _, _, gX⟩ := fld3 hgX
    rw [hB0] at hgX1
    obtain ⟨H2, v1, v2, v3, _⟩ := set3s hgX1 (show H.length ≤ H.length + 1 by omega) (x := .string ByteArray.empty) (y := .string ByteArray.empty) (z := .string ByteArray.empty) rfl
    subst hHX; subst hB0
    rw [← e1] at v1 v2
    exact f13_F_0 all3 gX hck (by simpa using h0) rfl v1 v2
end Go.Proofs.Ythjkodbinkiifaa.Am23
set_option linter.unusedVariables false
open Go Go.Proofs.Ythjkodbinkiifaa.Am
namespace Go.Proofs.Ythjkodbinkiifaa.Am23
theorem f44_F_0 {x0 : Int} {x1 : ByteArray} {H : AHeap} {prot : Nat} (h1 : x0 < 1) : callInf cfg 44 [.int .i64 x0, .string x1] prot H = some (Value.int .i64 20, H) :=
  fn_of2 a44 [.e, .b true, .b true, .b true, .b true] (ai (decide_eq_true h1) (ai (decide_eq_true h1) (ai (decide_eq_true h1) (ai (Eq.refl true) (Eq.refl ((Value.int .i64 20, H) : Value × AHeap)))))) (by kernel_rfl) rfl
theorem f44_F_1 {x0 : Int} {x1 : ByteArray} {H : AHeap} {prot : Nat} (h1 : ¬(x0 < 1)) (h2 : x0 > 8) : callInf cfg 44 [.int .i64 x0, .string x1] prot H = some (Value.int .i64 20, H) :=
  fn_of2 a44 [.e, .b false, .b false, .e, .b false, .b true] (ai (decide_eq_false h1) (ai (decide_eq_false h1) (ai (decide_eq_false h1) (ai (decide_eq_true h2) (Eq.refl ((Value.int .i64 20, H) : Value × AHeap)))))) (by kernel_rfl) rfl
theorem f44_F_2 {x0 : Int} {x1 : ByteArray} {H : AHeap} {prot : Nat} {z4 : Value} {H1 : AHeap} (h1 : ¬(x0 < 1)) (h2 : ¬(x0 > 8)) (h3 : lpInf (lpOf cfg a44 0 prot H) ([Value.int .i64 x0, Value.pointer (some ⟨List.length H, 0, some 0⟩)], H ++ [AObj.iter x1 0]) = some (Ex.exit 0, [z4], H1)) : callInf cfg 44 [.int .i64 x0, .string x1] prot H = some (Value.int .i64 0, H) :=
  fn_of2 a44 [.e, .b false, .b false, .e, .b false, .b false, .e, .lo (.exit 0, [z4], H1)] (ai (decide_eq_false h1) (ai (decide_eq_false h1) (ai (decide_eq_false h1) (ai (decide_eq_false h2) (ai h3 (Eq.refl ((Value.int .i64 0, H) : Value × AHeap))))))) (by kernel_rfl) rfl
theorem f44_F_3 {x0 : Int} {x1 : ByteArray} {H : AHeap} {prot : Nat} {z4 : Int} {H1 : AHeap} (h1 : ¬(x0 < 1)) (h2 : ¬(x0 > 8)) (h3 : lpInf (lpOf cfg a44 0 prot H) ([Value.int .i64 x0, Value.pointer (some ⟨List.length H, 0, some 0⟩)], H ++ [AObj.iter x1 0]) = some (Ex.ret, [Value.int .i64 z4], H1)) : callInf cfg 44 [.int .i64 x0, .string x1] prot H = some (Value.int .i64 z4, H) :=
  fn_of2 a44 [.e, .b false, .b false, .e, .b false, .b false, .e, .lo (.ret, [.int .i64 z4], H1)] (ai (decide_eq_false h1) (ai (decide_eq_false h1) (ai (decide_eq_false h1) (ai (decide_eq_false h2) (ai h3 (Eq.refl ((Value.int .i64 z4, H) : Value × AHeap))))))) (by kernel_rfl) rfl
theorem f44_L0_0 {x0 : Int} {x14p : Nat} {H0 : AHeap} {prot : Nat} {H : AHeap} {x15i x15r : Int} {H2 : AHeap} (h1 : anext (List.length H0) (Value.pointer (some ⟨x14p, 0, some 0⟩)) H = some (Value.tuple { toList := [Value.bool true, Value.int .i64 x15i, Value.int .i32 x15r] }, H2)) (h2 : x15r < 97) : lpOf cfg a44 0 prot H0 ([.int .i64 x0, .pointer (some ⟨x14p, 0, some 0⟩)], H) = some (Sum.inr (Ex.ret, [Value.int .i64 21], H2)) :=
  lp_of2 [.r (.tuple #[.bool true, .int .i64 x15i, .int .i32 x15r]) H2, .b true, .e, .b true, .b true, .b true, .b true, .b true, .b true, .b true] (ai h1 (ai (Eq.refl true) (ai (decide_eq_true h2) (ai (decide_eq_true h2) (ai (decide_eq_true h2) (ai (decide_eq_true h2) (ai (decide_eq_true h2) (ai (decide_eq_true h2) (ai (Eq.refl true) (Eq.refl (Sum.inr (Ex.ret, [Value.int .i64 21], H2) : LS ⊕ LO))))))))))) (by kernel_rfl)
theorem f44_L0_1 {x0 : Int} {x14p : Nat} {H0 : AHeap} {prot : Nat} {H : AHeap} {x15i x15r : Int} {H2 : AHeap} (h1 : anext (List.length H0) (Value.pointer (some ⟨x14p, 0, some 0⟩)) H = some (Value.tuple { toList := [Value.bool true, Value.int .i64 x15i, Value.int .i32 x15r] }, H2)) (h2 : ¬(x15r < 97)) (h3 : Fit .i32 x0) (h4 : Fit .i32 (97 + x0)) (h5 : x15r ≥ 97 + x0) : lpOf cfg a44 0 prot H0 ([.int .i64 x0, .pointer (some ⟨x14p, 0, some 0⟩)], H) = some (Sum.inr (Ex.ret, [Value.int .i64 21], H2)) :=
  lp_of2 [.r (.tuple #[.bool true, .int .i64 x15i, .int .i32 x15r]) H2, .b true, .e, .b false, .b false, .b false, .e, .b false, .e, .b false, .e, .b false, .b true] (ai h1 (ai (Eq.refl true) (ai (decide_eq_false h2) (ai (decide_eq_false h2) (ai (decide_eq_false h2) (ai h3 (ai (decide_eq_false h2) (ai h4 (ai (decide_eq_false h2) (ai (decide_eq_false h2) (ai (decide_eq_true h5) (Eq.refl (Sum.inr (Ex.ret, [Value.int .i64 21], H2) : LS ⊕ LO))))))))))))) (by kernel_rfl)
theorem f44_L0_2 {x0 : Int} {x14p : Nat} {H0 : AHeap} {prot : Nat} {H : AHeap} {x15i x15r : Int} {H2 : AHeap} (h1 : anext (List.length H0) (Value.pointer (some ⟨x14p, 0, some 0⟩)) H = some (Value.tuple { toList := [Value.bool true, Value.int .i64 x15i, Value.int .i32 x15r] }, H2)) (h2 : ¬(x15r < 97)) (h3 : Fit .i32 x0) (h4 : Fit .i32 (97 + x0)) (h5 : ¬(x15r ≥ 97 + x0)) : lpOf cfg a44 0 prot H0 ([.int .i64 x0, .pointer (some ⟨x14p, 0, some 0⟩)], H) = some (Sum.inl ([Value.int .i64 x0, Value.pointer (some ⟨x14p, 0, some 0⟩)], H2)) :=
  lp_of2 [.r (.tuple #[.bool true, .int .i64 x15i, .int .i32 x15r]) H2, .b true, .e, .b false, .b false, .b false, .e, .b false, .e, .b false, .e, .b false, .b false] (ai h1 (ai (Eq.refl true) (ai (decide_eq_false h2) (ai (decide_eq_false h2) (ai (decide_eq_false h2) (ai h3 (ai (decide_eq_false h2) (ai h4 (ai (decide_eq_false h2) (ai (decide_eq_false h2) (ai (decide_eq_false h5) (Eq.refl (Sum.inl ([Value.int .i64 x0, Value.pointer (some ⟨x14p, 0, some 0⟩)], H2) : LS ⊕ LO))))))))))))) (by kernel_rfl)
theorem f44_L0_3 {x0 : Int} {x14p : Nat} {H0 : AHeap} {prot : Nat} {H H2 : AHeap} (h1 : anext (List.length H0) (Value.pointer (some ⟨x14p, 0, some 0⟩)) H = some (Value.tuple { toList := [Value.bool false] }, H2)) : lpOf cfg a44 0 prot H0 ([.int .i64 x0, .pointer (some ⟨x14p, 0, some 0⟩)], H) = some (Sum.inr (Ex.exit 0, [Value.tuple { toList := [] }], H2)) :=
  lp_of2 [.r (.tuple #[.bool false]) H2, .b false] (ai h1 (ai (Eq.refl false) (Eq.refl (Sum.inr (Ex.exit 0, [Value.tuple { toList := [] }], H2) : LS ⊕ LO)))) (by kernel_rfl)
end Go.Proofs.Ythjkodbinkiifaa.Am23
namespace Go.Proofs.Ythjkodbinkiifaa.Am23
open Go Go.Proofs.Ythjkodbinkiifaa.Am

theorem dec_low (s : ByteArray) (i : Nat) (h : (s.get! i).toNat < 128) : Utf8.decode s i = ((s.get! i).toNat, 1) := by
  simp only [Utf8.decode, Nat.add_zero]
  rw [if_pos h]
theorem dec_high (s : ByteArray) (i : Nat) (h : ¬ (s.get! i).toNat < 128) : 128 ≤ (Utf8.decode s i).1 ∧ (Utf8.decode s i).1 ≤ 1114111 ∧ 1 ≤ (Utf8.decode s i).2 := by
  have hb : ∀ k, (s.get! (i + k)).toNat < 256 := fun k => (s.get! (i + k)).toNat_lt
  have h0 := hb 0; have h1 := hb 1; have h2 := hb 2; have h3 := hb 3
  simp only [Utf8.decode, Nat.add_zero, if_neg h]
  repeat' split
  all_goals simp_all [Utf8.runeError, Utf8.valid]
  all_goals omega

/-- Are all letters from i on (d of them) among the first k? -/
def okFrom (k : Nat) (w : ByteArray) : Nat → Nat → Bool
  | 0, _ => true
  | d + 1, i => decide (97 ≤ (w.get! i).toNat ∧ (w.get! i).toNat < 97 + k) && okFrom k w d (i + 1)
def okW (k : Nat) (w : ByteArray) : Bool := okFrom k w w.size 0

theorem okFrom_iff (k : Nat) (w : ByteArray) : ∀ d i, okFrom k w d i = true ↔ ∀ j, i ≤ j → j < i + d → 97 ≤ (w.get! j).toNat ∧ (w.get! j).toNat < 97 + k
  | 0, i => by simp [okFrom]; intro j h1 h2; omega
  | d + 1, i => by
    simp only [okFrom, Bool.and_eq_true, decide_eq_true_eq, okFrom_iff k w d (i + 1)]
    constructor
    · rintro ⟨h1, h2⟩ j hj1 hj2
      by_cases e : j = i
      · subst e; exact h1
      · exact h2 j (by omega) (by omega)
    · intro h
      exact ⟨h i (by omega) (by omega), fun j h1 h2 => h j (by omega) (by omega)⟩
theorem loop44 {k : Nat} (hk1 : 1 ≤ k) (hk : k ≤ 8) (w : ByteArray) (H0 : AHeap) (prot : Nat) (p : Nat) (hp : H0.length ≤ p) : ∀ (d i : Nat) (H : AHeap), i + d = w.size → H[p]? = some (.iter w i) →
    ∃ H' v, lpInf (lpOf cfg a44 0 prot H0) ([.int .i64 k, .pointer (some ⟨p, 0, some 0⟩)], H) = some (if okFrom k w d i then (.exit 0, [v], H') else (.ret, [.int .i64 21], H'))
  | 0, i, H, hi, hH => by
    refine ⟨H, .tuple #[], lp_last (f44_L0_3 ?_)⟩
    unfold anext
    simp only
    rw [hH]
    simp only
    rw [if_pos hp, if_neg (by omega)]
  | d + 1, i, H, hi, hH => by
    have hn : anext H0.length (.pointer (some ⟨p, 0, some 0⟩)) H = some (.tuple #[.bool true, .int .i64 i, .int .i32 (Utf8.decode w i).1], H.set p (.iter w (i + (Utf8.decode w i).2))) := by
      unfold anext
      simp only
      rw [hH]
      simp only
      rw [if_pos hp, if_pos (by omega)]
    have f1 : Fit .i32 (k : Int) := fit32 (by omega) (by omega)
    have f2 : Fit .i32 (97 + (k : Int)) := fit32 (by omega) (by omega)
    by_cases h1 : (w.get! i).toNat < 97
    · refine ⟨H.set p (.iter w (i + (Utf8.decode w i).2)), .tuple #[], ?_⟩
      have hf : okFrom k w (d + 1) i = false := by simp [okFrom]; omega
      rw [hf, if_neg (by simp)]
      refine lp_last (f44_L0_0 hn ?_)
      rw [dec_low w i (by omega)]
      show ((w.get! i).toNat : Int) < 97
      omega
    · by_cases h2 : (w.get! i).toNat < 97 + k
      · have hd := dec_low w i (by omega)
        rw [hd] at hn
        have step := f44_L0_2 (prot := prot) hn (by omega) f1 f2 (by omega)
        obtain ⟨H', v, ih⟩ := loop44 hk1 hk w H0 prot p hp d (i + 1) _ (by omega) (List.getElem?_set_self (List.getElem?_eq_some_iff.1 hH).1)
        refine ⟨H', v, lp_next step ?_⟩
        have hf : okFrom k w (d + 1) i = okFrom k w d (i + 1) := by
          have : decide (97 ≤ (w.get! i).toNat ∧ (w.get! i).toNat < 97 + k) = true := by simp; omega
          simp only [okFrom, this, Bool.true_and]
        rw [hf]
        exact ih
      · have hbig : (Utf8.decode w i).1 ≥ 97 + k := by
          by_cases h3 : (w.get! i).toNat < 128
          · rw [dec_low w i h3]; show (w.get! i).toNat ≥ 97 + k; omega
          · have := dec_high w i h3; omega
        refine ⟨H.set p (.iter w (i + (Utf8.decode w i).2)), .tuple #[], ?_⟩
        have hf : okFrom k w (d + 1) i = false := by simp [okFrom]; omega
        rw [hf, if_neg (by simp)]
        exact lp_last (f44_L0_1 hn (by omega) f1 f2 (by omega))

/-- What Check answers. -/
def chkW (k : Int) (w : ByteArray) : Int := if k < 1 ∨ k > 8 then 20 else if okW k.toNat w then 0 else 21

theorem c44 (k : Int) (w : ByteArray) (prot : Nat) (H : AHeap) : callInf cfg 44 [.int .i64 k, .string w] prot H = some (.int .i64 (chkW k w), H) := by
  unfold chkW
  by_cases h1 : k < 1
  · rw [if_pos (.inl h1)]; exact f44_F_0 h1
  · by_cases h2 : k > 8
    · rw [if_pos (.inr h2)]; exact f44_F_1 h1 h2
    · rw [if_neg (by omega)]
      obtain ⟨n, rfl⟩ : ∃ n : Nat, k = n := ⟨k.toNat, by omega⟩
      obtain ⟨H', v, h⟩ := loop44 (k := n) (by omega) (by omega) w H prot H.length (Nat.le_refl _) w.size 0 (H ++ [.iter w 0]) (by omega) append_get.1
      rw [Int.toNat_natCast]
      unfold okW
      cases hok : okFrom n w w.size 0 with
      | true =>
        rw [hok] at h
        exact f44_F_2 h1 h2 h
      | false =>
        rw [hok] at h
        exact f44_F_3 h1 h2 h

end Go.Proofs.Ythjkodbinkiifaa.Am23
namespace Go.Proofs.Ythjkodbinkiifaa.Am
open Go
theorem u8_small {m : Nat} (h : m < 256) : IntKind.u8.wrap (m : Int) = (m : Int) := by
  simp only [IntKind.wrap]
  show (if (false && decide ((m : Int) % (256 : Int) ≥ (128 : Int))) = true then (m : Int) % (256 : Int) - 256 else (m : Int) % (256 : Int)) = _
  rw [if_neg (by simp)]
  omega
end Go.Proofs.Ythjkodbinkiifaa.Am
set_option linter.unusedVariables false
open Go Go.Proofs.Ythjkodbinkiifaa.Am
namespace Go.Proofs.Ythjkodbinkiifaa.Am23
theorem f27_F_0 {x0a : Int} {x0ba : Option Addr} {x0bn x0bc : Nat} {x0ca : Option Addr} {x0cn x0cc : Nat} {x1 : ByteArray} {H : AHeap} {prot : Nat} {x9a : Int} {x9ba : Option Addr} {x9bn x9bc : Nat} {x9ca : Option Addr} {x9cn x9cc : Nat} {x11a x11b : Int} {x18a : Option Addr} {x18n x18c x20p x20o x20l : Nat} {x21 : Bool} (h1 : [Value.int .i64 x0a, Value.slice x0ba x0bn x0bc, Value.slice x0ca x0cn x0cc].all isCell = true) (h2 : getCells (H ++ [vo [Value.int .i64 x0a, Value.slice x0ba x0bn x0bc, Value.slice x0ca x0cn x0cc] 25]) (List.length H) [Value.int .i64 x0a, Value.slice x0ba x0bn x0bc, Value.slice x0ca x0cn x0cc].length 0 3 = some [Value.int .i64 x9a, Value.slice x9ba x9bn x9bc, Value.slice x9ca x9cn x9cc]) (h3 : callInf cfg 51 [Value.agg { toList := [Value.int .i64 x9a, Value.slice x9ba x9bn x9bc, Value.slice x9ca x9cn x9cc] }, Value.int .i64 0, Value.string x1] (List.length H) (H ++ [vo [Value.int .i64 x0a, Value.slice x0ba x0bn x0bc, Value.slice x0ca x0cn x0cc] 25]) = some (Value.tuple { toList := [Value.int .i64 x11a, Value.int .i64 x11b] }, H ++ [vo [Value.int .i64 x0a, Value.slice x0ba x0bn x0bc, Value.slice x0ca x0cn x0cc] 25])) (h4 : (x11b == 0) = true) (h5 : getCells (H ++ [vo [Value.int .i64 x0a, Value.slice x0ba x0bn x0bc, Value.slice x0ca x0cn x0cc] 25]) (List.length H) [Value.int .i64 x0a, Value.slice x0ba x0bn x0bc, Value.slice x0ca x0cn x0cc].length (0 + 2) 1 = some [Value.slice x18a x18n x18c]) (h6 : aindexAddr cfg.P 23 (Value.slice x18a x18n x18c) (Value.int .i64 x11a) = some (Value.pointer (some ⟨x20p, x20o, some x20l⟩))) (h7 : getCells (H ++ [vo [Value.int .i64 x0a, Value.slice x0ba x0bn x0bc, Value.slice x0ca x0cn x0cc] 25]) x20p x20l x20o 1 = some [Value.bool x21]) : callInf cfg 27 [.agg #[.int .i64 x0a, .slice x0ba x0bn x0bc, .slice x0ca x0cn x0cc], .string x1] prot H = some (Value.tuple { toList := [Value.bool x21, Value.int .i64 x11b] }, H) :=
  fn_of2 a27 [.e, .v (.agg #[.int .i64 x9a, .slice x9ba x9bn x9bc, .slice x9ca x9cn x9cc]), .v (.tuple #[.int .i64 x11a, .int .i64 x11b]), .e, .b true, .b true, .v (.slice x18a x18n x18c), .b true, .b true, .v (.pointer (some ⟨x20p, x20o, some x20l⟩)), .b true, .v (.bool x21), .b true] (ai h1 (ai h2 (ai h3 (ai h4 (ai h4 (ai h5 (ai h4 (ai h4 (ai h6 (ai h4 (ai h7 (ai h4 (Eq.refl ((Value.tuple { toList := [Value.bool x21, Value.int .i64 x11b] }, H) : Value × AHeap)))))))))))))) (by kernel_rfl) rfl
end Go.Proofs.Ythjkodbinkiifaa.Am23
set_option linter.unusedVariables false
open Go Go.Proofs.Ythjkodbinkiifaa.Am
namespace Go.Proofs.Ythjkodbinkiifaa.Am23
theorem f51_F_4 {x0a : Int} {x0ba : Option Addr} {x0bn x0bc : Nat} {x0ca : Option Addr} {x0cn x0cc : Nat} {x1 : Int} {x2 : ByteArray} {H : AHeap} {prot : Nat} {x10a : Int} {x10ba : Option Addr} {x10bn x10bc : Nat} {x10ca : Option Addr} {x10cn x10cc : Nat} {x11 : Int} {x20a : Option Addr} {x20n x20c : Nat} {x24a : Int} {x24ba : Option Addr} {x24bn x24bc : Nat} {x24ca : Option Addr} {x24cn x24cc : Nat} {x26 x30a : Int} {x30ba : Option Addr} {x30bn x30bc : Nat} {x30ca : Option Addr} {x30cn x30cc : Nat} {x33 : Int} (h1 : [Value.int .i64 x0a, Value.slice x0ba x0bn x0bc, Value.slice x0ca x0cn x0cc].all isCell = true) (h2 : getCells (H ++ [vo [Value.int .i64 x0a, Value.slice x0ba x0bn x0bc, Value.slice x0ca x0cn x0cc] 25]) (List.length H) [Value.int .i64 x0a, Value.slice x0ba x0bn x0bc, Value.slice x0ca x0cn x0cc].length 0 3 = some [Value.int .i64 x10a, Value.slice x10ba x10bn x10bc, Value.slice x10ca x10cn x10cc]) (h3 : callInf cfg 64 [Value.agg { toList := [Value.int .i64 x10a, Value.slice x10ba x10bn x10bc, Value.slice x10ca x10cn x10cc] }] (List.length H) (H ++ [vo [Value.int .i64 x0a, Value.slice x0ba x0bn x0bc, Value.slice x0ca x0cn x0cc] 25]) = some (Value.int .i64 x11, H ++ [vo [Value.int .i64 x0a, Value.slice x0ba x0bn x0bc, Value.slice x0ca x0cn x0cc] 25])) (h4 : (x11 != 0) = false) (h5 : ¬(x1 < 0)) (h6 : getCells (H ++ [vo [Value.int .i64 x0a, Value.slice x0ba x0bn x0bc, Value.slice x0ca x0cn x0cc] 25]) (List.length H) [Value.int .i64 x0a, Value.slice x0ba x0bn x0bc, Value.slice x0ca x0cn x0cc].length (0 + 2) 1 = some [Value.slice x20a x20n x20c]) (h7 : ¬(x1 ≥ (↑x20n : Int))) (h8 : getCells (H ++ [vo [Value.int .i64 x0a, Value.slice x0ba x0bn x0bc, Value.slice x0ca x0cn x0cc] 25]) (List.length H) [Value.int .i64 x0a, Value.slice x0ba x0bn x0bc, Value.slice x0ca x0cn x0cc].length 0 3 = some [Value.int .i64 x24a, Value.slice x24ba x24bn x24bc, Value.slice x24ca x24cn x24cc]) (h9 : callInf cfg 68 [Value.agg { toList := [Value.int .i64 x24a, Value.slice x24ba x24bn x24bc, Value.slice x24ca x24cn x24cc] }, Value.string x2] (List.length H) (H ++ [vo [Value.int .i64 x0a, Value.slice x0ba x0bn x0bc, Value.slice x0ca x0cn x0cc] 25]) = some (Value.int .i64 x26, H ++ [vo [Value.int .i64 x0a, Value.slice x0ba x0bn x0bc, Value.slice x0ca x0cn x0cc] 25])) (h10 : (x26 != 0) = false) (h11 : getCells (H ++ [vo [Value.int .i64 x0a, Value.slice x0ba x0bn x0bc, Value.slice x0ca x0cn x0cc] 25]) (List.length H) [Value.int .i64 x0a, Value.slice x0ba x0bn x0bc, Value.slice x0ca x0cn x0cc].length 0 3 = some [Value.int .i64 x30a, Value.slice x30ba x30bn x30bc, Value.slice x30ca x30cn x30cc]) (h12 : callInf cfg 69 [Value.agg { toList := [Value.int .i64 x30a, Value.slice x30ba x30bn x30bc, Value.slice x30ca x30cn x30cc] }, Value.int .i64 x1, Value.string x2] (List.length H) (H ++ [vo [Value.int .i64 x0a, Value.slice x0ba x0bn x0bc, Value.slice x0ca x0cn x0cc] 25]) = some (Value.int .i64 x33, H ++ [vo [Value.int .i64 x0a, Value.slice x0ba x0bn x0bc, Value.slice x0ca x0cn x0cc] 25])) : callInf cfg 51 [.agg #[.int .i64 x0a, .slice x0ba x0bn x0bc, .slice x0ca x0cn x0cc], .int .i64 x1, .string x2] prot H = some (Value.tuple { toList := [Value.int .i64 x33, Value.int .i64 0] }, H) :=
  fn_of2 a51 [.e, .v (.agg #[.int .i64 x10a, .slice x10ba x10bn x10bc, .slice x10ca x10cn x10cc]), .v (.int .i64 x11), .e, .b false, .e, .b false, .b false, .b false, .v (.slice x20a x20n x20c), .b false, .e, .b false, .e, .b false, .b false, .v (.agg #[.int .i64 x24a, .slice x24ba x24bn x24bc, .slice x24ca x24cn x24cc]), .v (.int .i64 x26), .e, .b false, .v (.agg #[.int .i64 x30a, .slice x30ba x30bn x30bc, .slice x30ca x30cn x30cc]), .v (.int .i64 x33)] (ai h1 (ai h2 (ai h3 (ai h4 (ai (decide_eq_false h5) (ai (decide_eq_false h5) (ai (decide_eq_false h5) (ai h6 (ai (decide_eq_false h5) (ai (decide_eq_false h5) (ai (decide_eq_false h5) (ai (decide_eq_false h7) (ai h8 (ai h9 (ai h10 (ai h11 (ai h12 (Eq.refl ((Value.tuple { toList := [Value.int .i64 x33, Value.int .i64 0] }, H) : Value × AHeap))))))))))))))))))) (by kernel_rfl) rfl
end Go.Proofs.Ythjkodbinkiifaa.Am23
set_option linter.unusedVariables false
open Go Go.Proofs.Ythjkodbinkiifaa.Am
namespace Go.Proofs.Ythjkodbinkiifaa.Am23
theorem f68_F_0 {x0a : Int} {x0ba : Option Addr} {x0bn x0bc : Nat} {x0ca : Option Addr} {x0cn x0cc : Nat} {x1 : ByteArray} {H : AHeap} {prot : Nat} {x6 x8 : Int} (h1 : [Value.int .i64 x0a, Value.slice x0ba x0bn x0bc, Value.slice x0ca x0cn x0cc].all isCell = true) (h2 : getCells (H ++ [vo [Value.int .i64 x0a, Value.slice x0ba x0bn x0bc, Value.slice x0ca x0cn x0cc] 25]) (List.length H) [Value.int .i64 x0a, Value.slice x0ba x0bn x0bc, Value.slice x0ca x0cn x0cc].length (0 + 0) 1 = some [Value.int .i64 x6]) (h3 : callInf cfg 44 [Value.int .i64 x6, Value.string x1] (List.length H) (H ++ [vo [Value.int .i64 x0a, Value.slice x0ba x0bn x0bc, Value.slice x0ca x0cn x0cc] 25]) = some (Value.int .i64 x8, H ++ [vo [Value.int .i64 x0a, Value.slice x0ba x0bn x0bc, Value.slice x0ca x0cn x0cc] 25])) : callInf cfg 68 [.agg #[.int .i64 x0a, .slice x0ba x0bn x0bc, .slice x0ca x0cn x0cc], .string x1] prot H = some (Value.int .i64 x8, H) :=
  fn_of2 a68 [.e, .v (.int .i64 x6), .v (.int .i64 x8)] (ai h1 (ai h2 (ai h3 (Eq.refl ((Value.int .i64 x8, H) : Value × AHeap))))) (by kernel_rfl) rfl
end Go.Proofs.Ythjkodbinkiifaa.Am23
set_option linter.unusedVariables false
open Go Go.Proofs.Ythjkodbinkiifaa.Am
namespace Go.Proofs.Ythjkodbinkiifaa.Am23
theorem f69_F_0 {x0a : Int} {x0ba : Option Addr} {x0bn x0bc : Nat} {x0ca : Option Addr} {x0cn x0cc : Nat} {x1 : Int} {x2 : ByteArray} {H : AHeap} {prot : Nat} {z1 : Int} {H1 : AHeap} (h1 : [Value.int .i64 x0a, Value.slice x0ba x0bn x0bc, Value.slice x0ca x0cn x0cc].all isCell = true) (h2 : lpInf (lpOf cfg a69 0 prot H) ([Value.int .i64 x1, Value.string x2, Value.pointer (some ⟨List.length H, 0, some [Value.int .i64 x0a, Value.slice x0ba x0bn x0bc, Value.slice x0ca x0cn x0cc].length⟩), Value.int .i64 (↑x2.size : Int), Value.int .i64 0], H ++ [vo [Value.int .i64 x0a, Value.slice x0ba x0bn x0bc, Value.slice x0ca x0cn x0cc] 25]) = some (Ex.exit 0, [Value.int .i64 z1], H1)) : callInf cfg 69 [.agg #[.int .i64 x0a, .slice x0ba x0bn x0bc, .slice x0ca x0cn x0cc], .int .i64 x1, .string x2] prot H = some (Value.int .i64 z1, H) :=
  fn_of2 a69 [.e, .e, .lo (.exit 0, [.int .i64 z1], H1)] (ai h1 (ai h2 (Eq.refl ((Value.int .i64 z1, H) : Value × AHeap)))) (by kernel_rfl) rfl
theorem f69_L0_0 {x1 : Int} {x2 : ByteArray} {x3p x3o x3l : Nat} {x9 x10 : Int} {H0 : AHeap} {prot : Nat} {H : AHeap} {x14a : Option Addr} {x14n x14c : Nat} {x17 : Int} {x25p x25o x25l : Nat} {x26 : Int} (h1 : x10 < x9) (h2 : getCells H x3p x3l (x3o + 1) 1 = some [Value.slice x14a x14n x14c]) (h3 : getCells H x3p x3l (x3o + 0) 1 = some [Value.int .i64 x17]) (h4 : Fit .i64 (x1 * x17)) (h5 : 0 ≤ x10) (h6 : x10 < (↑x2.size : Int)) (h7 : Fit .i64 (IntKind.u8.wrap ((↑(x2.get! x10.toNat).toNat : Int) - 97))) (h8 : Fit .i64 (x1 * x17 + IntKind.u8.wrap ((↑(x2.get! x10.toNat).toNat : Int) - 97))) (h9 : aindexAddr cfg.P 22 (Value.slice x14a x14n x14c) (Value.int .i64 (x1 * x17 + IntKind.u8.wrap ((↑(x2.get! x10.toNat).toNat : Int) - 97))) = some (Value.pointer (some ⟨x25p, x25o, some x25l⟩))) (h10 : getCells H x25p x25l x25o 1 = some [Value.int .i64 x26]) (h11 : Fit .i64 (x10 + 1)) : lpOf cfg a69 0 prot H0 ([.int .i64 x1, .string x2, .pointer (some ⟨x3p, x3o, some x3l⟩), .int .i64 x9, .int .i64 x10], H) = some (Sum.inl ([Value.int .i64 x26, Value.string x2, Value.pointer (some ⟨x3p, x3o, some x3l⟩), Value.int .i64 x9, Value.int .i64 (x10 + 1)], H)) :=
  lp_of2 [.e, .b true, .v (.slice x14a x14n x14c), .v (.int .i64 x17), .e, .e, .e, .e, .e, .v (.pointer (some ⟨x25p, x25o, some x25l⟩)), .v (.int .i64 x26), .e] (ai (decide_eq_true h1) (ai h2 (ai h3 (ai h4 (ai h5 (ai h6 (ai h7 (ai h8 (ai h9 (ai h10 (ai h11 (Eq.refl (Sum.inl ([Value.int .i64 x26, Value.string x2, Value.pointer (some ⟨x3p, x3o, some x3l⟩), Value.int .i64 x9, Value.int .i64 (x10 + 1)], H) : LS ⊕ LO))))))))))))) (by kernel_rfl)
theorem f69_L0_1 {x1 : Int} {x2 : ByteArray} {x3p x3o x3l : Nat} {x9 x10 : Int} {H0 : AHeap} {prot : Nat} {H : AHeap} (h1 : ¬(x10 < x9)) : lpOf cfg a69 0 prot H0 ([.int .i64 x1, .string x2, .pointer (some ⟨x3p, x3o, some x3l⟩), .int .i64 x9, .int .i64 x10], H) = some (Sum.inr (Ex.exit 0, [Value.int .i64 x1], H)) :=
  lp_of2 [.e, .b false] (ai (decide_eq_false h1) (Eq.refl (Sum.inr (Ex.exit 0, [Value.int .i64 x1], H) : LS ⊕ LO))) (by kernel_rfl)
end Go.Proofs.Ythjkodbinkiifaa.Am23
namespace Go.Proofs.Ythjkodbinkiifaa.Am23
open Go Go.Proofs.Ythjkodbinkiifaa.Am

theorem lw_get {l : List Nat} {i : Nat} (hi : i < l.length) (hl : l[i] < 100) : ((lw l).get! i).toNat = 97 + l[i] := by
  show ((lw l).data[i]!).toNat = _
  unfold lw bstr
  have : ((l.map (97 + ·)).map fun n => UInt8.ofNat n).toArray[i]! = UInt8.ofNat (97 + l[i]) := by
    rw [getElem!_pos _ _ (by simpa using hi)]
    simp
  rw [this, UInt8.toNat_ofNat']
  omega
theorem okW_lw {k : Nat} (hk : k ≤ 8) {l : List Nat} (hl : Wk k l) : okW k (lw l) = true := by
  unfold okW
  rw [okFrom_iff]
  intro j _ hj
  rw [lw_size] at hj
  have hj : j < l.length := by omega
  have := hl _ (List.getElem_mem hj)
  rw [lw_get hj (by omega)]
  omega

theorem loop69 {k : Nat} {xs : List Int} {bs : List Bool} (hG : Good k xs bs) {l : List Nat} (hl : Wk k l) (hsz : l.length ≤ 100000000) {H0 H : AHeap} {prot : Nat} {vN vA : Value} (hbx : H[H0.length]? = some (bx k vN vA)) (hA : Rd H 3 1 vN xs.length (il xs)) (ha : ∃ p n c, vA = .slice p n c) : ∀ (d i s : Nat), i + d = l.length → s < bs.length →
    lpInf (lpOf cfg a69 0 prot H0) ([.int .i64 s, .string (lw l), .pointer (some ⟨H0.length, 0, some 3⟩), .int .i64 l.length, .int .i64 i], H) = some (.exit 0, [.int .i64 (go k xs s (l.drop i) : Nat)], H)
  | 0, i, s, hi, hs => by
    rw [List.drop_of_length_le (by omega)]
    exact lp_last (f69_L0_1 (by omega))
  | d + 1, i, s, hi, hs => by
    have hil : i < l.length := by omega
    have hck : l[i] < k := hl _ (List.getElem_mem hil)
    have hn5 := hG.n5
    have hk8 := hG.k8
    have hxl := hG.nx
    have hb8 : bs.length * k ≤ 512 * 8 := Nat.mul_le_mul hn5 hk8
    obtain ⟨h1, h2, h3⟩ := tgt_lt hG hs hck
    have ih := loop69 hG hl hsz (prot := prot) hbx hA ha d (i + 1) (tgt k xs s l[i]) (by omega) h2
    obtain ⟨_, _, n1, n2⟩ := rd_at T22 hA (show (il xs)[s * k + l[i]]? = some (.int .i64 ((tgt k xs s l[i] : Nat) : Int)) by unfold il; rw [List.getElem?_map, h3]; rfl)
    obtain ⟨aN, cN, rfl⟩ := hA.len
    obtain ⟨aA, nA, cA, rfl⟩ := ha
    obtain ⟨g0, g1, _, _⟩ := fld3 hbx
    have hu : IntKind.u8.wrap ((((lw l).get! ((i : Int)).toNat).toNat : Int) - 97) = (l[i] : Int) := by
      rw [Int.toNat_natCast, lw_get hil (by omega)]
      rw [show (((97 + l[i] : Nat) : Int) - 97) = ((l[i] : Nat) : Int) by omega]
      exact u8_small (by omega)
    have eix : ((s : Int) * (k : Int) + (l[i] : Int)) = ((s * k + l[i] : Nat) : Int) := by push_cast; rfl
    have f1 : Fit .i64 ((s : Int) * (k : Int)) := by rw [show ((s : Int) * (k : Int)) = ((s * k : Nat) : Int) by push_cast; rfl]; exact fit64 (by omega) (by omega)
    have f2 : Fit .i64 ((s : Int) * (k : Int) + (l[i] : Int)) := by rw [eix]; exact fit64 (by omega) (by omega)
    have f0 : Fit .i64 (l[i] : Int) := fit64 (by omega) (by omega)
    rw [← eix] at n1
    rw [← hu] at f0 f2 n1
    rw [List.drop_eq_getElem_cons hil]
    show lpInf _ _ = some (.exit 0, [.int .i64 (go k xs (tgt k xs s l[i]) (l.drop (i + 1)) : Nat)], H)
    exact lp_next (f69_L0_0 (x2 := lw l) (by omega) g1 g0 f1 (by omega) (by rw [lw_size]; omega) f0 f2 n1 n2 (fit64 (by omega) (by omega))) ih

theorem c69 {k s : Nat} {xs : List Int} {bs : List Bool} (hG : Good k xs bs) {l : List Nat} (hl : Wk k l) (hsz : l.length ≤ 100000000) (hs : s < bs.length) {vN vA : Value} (prot : Nat) (H : AHeap) (hA : IsA H xs bs vN vA) :
    callInf cfg 69 [av k vN vA, .int .i64 s, .string (lw l)] prot H = some (.int .i64 (go k xs s l : Nat), H) := by
  have hg : (H ++ [bx k vN vA])[H.length]? = some (bx k vN vA) := append_get.1
  have hA2 := hA.stay (Stay.app none H [bx k vN vA])
  have hlp := loop69 hG hl hsz (prot := prot) hg hA2.n (by obtain ⟨_, _, rfl⟩ := hA.a.len; exact ⟨_, _, _, rfl⟩) l.length 0 s (by omega) hs
  rw [List.drop_zero] at hlp
  obtain ⟨aN, cN, rfl⟩ := hA.n.len
  obtain ⟨aA, cA, rfl⟩ := hA.a.len
  rw [show ((l.length : Nat) : Int) = (((lw l).size : Nat) : Int) by rw [lw_size]] at hlp
  exact f69_F_0 all3 hlp

/-- What Run and Accepts answer at a good automaton and a good word. -/
theorem c51 {k s : Nat} {xs : List Int} {bs : List Bool} (hG : Good k xs bs) (h0 : chkG k xs bs = 0) {l : List Nat} (hl : Wk k l) (hsz : l.length ≤ 100000000) (hs : s < bs.length) {vN vA : Value} (prot : Nat) (H : AHeap) (hA : IsA H xs bs vN vA) :
    callInf cfg 51 [av k vN vA, .int .i64 s, .string (lw l)] prot H = some (.tuple #[.int .i64 (go k xs s l : Nat), .int .i64 0], H) := by
  have hk1 := hG.k1
  have hk8 := hG.k8
  have hg : (H ++ [bx k vN vA])[H.length]? = some (bx k vN vA) := append_get.1
  have hA2 := hA.stay (Stay.app none H [bx k vN vA])
  have h64 := c64 (k := k) H.length (H ++ [bx k vN vA]) hA2
  have hv : chkV k xs bs = 0 := by
    unfold chkG at h0
    unfold chkV
    split at h0
    · rename_i h; rw [if_pos h]
    · cases h0
  rw [hv] at h64
  have h69 := c69 hG hl hsz hs H.length (H ++ [bx k vN vA]) hA2
  have hg2 : (H ++ [bx k vN vA] ++ [bx k vN vA])[(H ++ [bx k vN vA]).length]? = some (bx k vN vA) := append_get.1
  have h44 := c44 (k : Int) (lw l) (H ++ [bx k vN vA]).length (H ++ [bx k vN vA] ++ [bx k vN vA])
  have hcw : chkW k (lw l) = 0 := by unfold chkW; rw [if_neg (by omega), Int.toNat_natCast, okW_lw hk8 hl]; rfl
  rw [hcw] at h44
  obtain ⟨aN, cN, rfl⟩ := hA.n.len
  obtain ⟨aA, cA, rfl⟩ := hA.a.len
  obtain ⟨g0, g1, g2, g3⟩ := fld3 hg
  obtain ⟨k0, _⟩ := fld3 hg2
  have h68 := f68_F_0 (prot := H.length) all3 k0 h44
  exact f51_F_4 all3 g3 h64 rfl (by omega) g2 (by omega) g3 h68 rfl g3 h69
theorem c27 {k : Nat} {xs : List Int} {bs : List Bool} (hG : Good k xs bs) (h0 : chkG k xs bs = 0) {l : List Nat} (hl : Wk k l) (hsz : l.length ≤ 100000000) {vN vA : Value} (prot : Nat) (H : AHeap) (hA : IsA H xs bs vN vA) :
    callInf cfg 27 [av k vN vA, .string (lw l)] prot H = some (.tuple #[.bool (bs.getD (go k xs 0 l) false), .int .i64 0], H) := by
  have hb1 := hG.n1
  have hg : (H ++ [bx k vN vA])[H.length]? = some (bx k vN vA) := append_get.1
  have hA2 := hA.stay (Stay.app none H [bx k vN vA])
  have h51 := c51 hG h0 hl hsz (show 0 < bs.length by omega) H.length (H ++ [bx k vN vA]) hA2
  have hlt := go_lt hG l 0 hl (by omega)
  obtain ⟨_, _, n1, n2⟩ := rd_at T23 hA2.a (bl_at hlt)
  obtain ⟨aN, cN, rfl⟩ := hA.n.len
  obtain ⟨aA, cA, rfl⟩ := hA.a.len
  obtain ⟨g0, g1, g2, g3⟩ := fld3 hg
  exact f27_F_0 all3 g3 h51 rfl g2 n1 n2
end Go.Proofs.Ythjkodbinkiifaa.Am23
namespace Go.Proofs.Ythjkodbinkiifaa.Am
open Go

end Go.Proofs.Ythjkodbinkiifaa.Am
namespace Go.Proofs.Ythjkodbinkiifaa.Am
open Go
end Go.Proofs.Ythjkodbinkiifaa.Am
set_option linter.unusedVariables false
open Go Go.Proofs.Ythjkodbinkiifaa.Am
namespace Go.Proofs.Ythjkodbinkiifaa.Am23
end Go.Proofs.Ythjkodbinkiifaa.Am23
set_option linter.unusedVariables false
open Go Go.Proofs.Ythjkodbinkiifaa.Am
namespace Go.Proofs.Ythjkodbinkiifaa.Am23
end Go.Proofs.Ythjkodbinkiifaa.Am23
namespace Go.Proofs.Ythjkodbinkiifaa.Am23
open Go Go.Proofs.Ythjkodbinkiifaa.Am

theorem pfin_agg {fn : AFunc} {H H' : AHeap} {cs : Array Value} (hm : fn.muts = false) (h : plain1 (.agg cs) = false) : pfin fn H [.agg cs] H' = (.agg cs, H') := by
  rw [pfin_eq, if_neg (by rw [hm]; simp)]
  exact gc_agg h
theorem plain_no2 {a b c : Value} (h : plain0 c = false) : plain1 (.agg #[a, b, c]) = false := by
  show (plain0 a && (plain0 b && (plain0 c && true))) = false
  rw [h]; simp
end Go.Proofs.Ythjkodbinkiifaa.Am23
set_option linter.unusedVariables false
open Go Go.Proofs.Ythjkodbinkiifaa.Am
namespace Go.Proofs.Ythjkodbinkiifaa.Am23
end Go.Proofs.Ythjkodbinkiifaa.Am23
set_option linter.unusedVariables false
open Go Go.Proofs.Ythjkodbinkiifaa.Am
namespace Go.Proofs.Ythjkodbinkiifaa.Am23
theorem f15_F_0 {x0 : Int} {H : AHeap} {prot : Nat}  : callInf cfg 15 [.int .i64 x0] prot H = some (Value.int .i64 x0, H) :=
  fn_of2 a15 [] (Eq.refl ((Value.int .i64 x0, H) : Value × AHeap)) (by kernel_rfl) rfl
end Go.Proofs.Ythjkodbinkiifaa.Am23
namespace Go.Proofs.Ythjkodbinkiifaa.Am23
open Go Go.Proofs.Ythjkodbinkiifaa.Am

theorem cKnows (prot : Nat) (H : AHeap) : callInf cfg 12 [] prot H = some (.bool true, H) := by
  refine callInf_body ?_
  unfold callWith
  have h : cfg.code 12 = some a12 := rfl
  rw [h]
  rfl

/-! ### The words of a language and those of what is left -/
theorem getD_set {D : List Nat} {i s v : Nat} (hi : i < D.length) : (D.set i v).getD s 0 = if s = i then v else D.getD s 0 := by
  simp only [List.getD_eq_getElem?_getD, List.getElem?_set]
  by_cases h : s = i
  · subst h; simp [hi]
  · rw [if_neg h, if_neg (fun e => h e.symm)]
theorem pass_sum {k : Nat} {xs : List Int} {bs : List Bool} (hG : Good k xs bs) {C C' : List Nat} {q : Nat} (hC : ∀ t, t < bs.length → C.getD t 0 + C'.getD t 0 = q) : ∀ (d i : Nat) (D D' : List Nat), i + d = xs.length → D.length = bs.length → D'.length = bs.length →
    (∀ s, s < bs.length → D.getD s 0 + D'.getD s 0 = q * min k (i - s * k)) → ∀ s, s < bs.length → (pass k xs C d i D).getD s 0 + (pass k xs C' d i D').getD s 0 = q * min k (xs.length - s * k)
  | 0, i, D, D', hi, hD, hD', h, s, hs => by
    simp only [pass]
    rw [h s hs]
    have : i = xs.length := by omega
    rw [this]
  | d + 1, i, D, D', hi, hD, hD', h, s, hs => by
    simp only [pass]
    have hk := hG.k1
    have hxl := hG.nx
    have hil : i < xs.length := by omega
    obtain ⟨t, ht, htl⟩ := hG.r i xs[i] (List.getElem?_eq_getElem hil)
    have hget : xs.getD i 0 = t := by rw [List.getD_eq_getElem?_getD, List.getElem?_eq_getElem hil, ht]; rfl
    have hsi : i / k < bs.length := Nat.div_lt_of_lt_mul (by rw [Nat.mul_comm]; omega)
    rw [hget, Int.toNat_natCast]
    refine pass_sum hG hC d (i + 1) _ _ (by omega) (by simp; omega) (by simp; omega) (fun s hs => ?_) s hs
    rw [getD_set (by omega), getD_set (by omega)]
    have hdm := Nat.div_add_mod i k
    have hml := Nat.mod_lt i (show 0 < k by omega)
    by_cases he : s = i / k
    · rw [if_pos he, if_pos he]
      have h1 := h (i / k) hsi
      have h2 := hC t htl
      have e1 : min k (i - i / k * k) = i % k := by rw [Nat.mul_comm] at hdm ⊢; rw [show k * (i / k) = i / k * k from Nat.mul_comm _ _]; omega
      have e2 : min k (i + 1 - s * k) = i % k + 1 := by rw [he]; rw [Nat.mul_comm] at hdm; omega
      rw [e1] at h1
      rw [e2, Nat.mul_add, Nat.mul_one]
      omega
    · rw [if_neg he, if_neg he, h s hs]
      congr 1
      rcases Nat.lt_or_ge s (i / k) with hlt | hge
      · have := Nat.mul_le_mul (show s + 1 ≤ i / k by omega) (Nat.le_refl k)
        rw [Nat.add_mul, Nat.one_mul] at this
        rw [Nat.mul_comm] at hdm
        omega
      · have := Nat.mul_le_mul (show i / k + 1 ≤ s by omega) (Nat.le_refl k)
        rw [Nat.add_mul, Nat.one_mul] at this
        rw [Nat.mul_comm] at hdm
        omega
theorem Good.not {k : Nat} {xs : List Int} {bs : List Bool} (hG : Good k xs bs) : Good k xs (bs.map (!·)) := by
  refine ⟨hG.k1, hG.k8, by simp; exact hG.n1, by simp; exact hG.n5, by simp; exact hG.nx, fun i x hx => ?_⟩
  obtain ⟨t, h1, h2⟩ := hG.r i x hx
  exact ⟨t, h1, by simpa using h2⟩
theorem rowC_sum {k : Nat} {xs : List Int} {bs : List Bool} (hG : Good k xs bs) : ∀ (m s : Nat), s < bs.length → (rowC k xs bs m).getD s 0 + (rowC k xs (bs.map (!·)) m).getD s 0 = k ^ m
  | 0, s, hs => by
    simp only [rowC, List.getD_eq_getElem?_getD, List.getElem?_map, List.getElem?_eq_getElem hs, Option.map_some, Option.getD_some, Nat.pow_zero]
    cases bs[s] <;> simp [b2n]
  | m + 1, s, hs => by
    simp only [rowC, List.length_map]
    have := pass_sum hG (C := rowC k xs bs m) (C' := rowC k xs (bs.map (!·)) m) (q := k ^ m) (fun t ht => rowC_sum hG m t ht) xs.length 0 (List.replicate bs.length 0) (List.replicate bs.length 0) (by omega) (by simp) (by simp)
      (fun s hs => by simp [List.getD_eq_getElem?_getD, hs]) s hs
    rw [this, Nat.pow_succ]
    congr 1
    have hxl := hG.nx
    have := Nat.mul_le_mul (show s + 1 ≤ bs.length by omega) (Nat.le_refl k)
    rw [Nat.add_mul, Nat.one_mul] at this
    omega

end Go.Proofs.Ythjkodbinkiifaa.Am23
set_option linter.unusedVariables false
open Go Go.Proofs.Ythjkodbinkiifaa.Am
namespace Go.Proofs.Ythjkodbinkiifaa.Am23
theorem f40_F_0 {x0a : Int} {x0ba : Option Addr} {x0bn x0bc : Nat} {x0ca : Option Addr} {x0cn x0cc : Nat} {H : AHeap} {prot : Nat} {x7 : Int} {x9a : Option Addr} {x9n x9c : Nat} {x11a : Option Addr} {x11n x11c : Nat} {x13a : Option Addr} {x13n x13c : Nat} {H1 H2 : AHeap} {x16a : Option Addr} {x16n x16c z2p z2o z2l z3p z3o z3l : Nat} {H3 : AHeap} {x30a : Int} {x30ba : Option Addr} {x30bn x30bc : Nat} {x30ca : Option Addr} {x30cn x30cc : Nat} {H4 : AHeap} {wa : Int} {wba : Option Addr} {wbn wbc : Nat} {wca : Option Addr} {wcn wcc : Nat} (rv : Value) (rH : AHeap) (h1 : [Value.int .i64 x0a, Value.slice x0ba x0bn x0bc, Value.slice x0ca x0cn x0cc].all isCell = true) (h2 : getCells (H ++ [vo [Value.int .i64 x0a, Value.slice x0ba x0bn x0bc, Value.slice x0ca x0cn x0cc] 25] ++ [vo [Value.int .i64 0, Value.slice none 0 0, Value.slice none 0 0] 25] ++ [AObj.hole, AObj.hole]) (List.length H) [Value.int .i64 x0a, Value.slice x0ba x0bn x0bc, Value.slice x0ca x0cn x0cc].length (0 + 0) 1 = some [Value.int .i64 x7]) (h3 : getCells (H ++ [vo [Value.int .i64 x0a, Value.slice x0ba x0bn x0bc, Value.slice x0ca x0cn x0cc] 25] ++ [vo [Value.int .i64 0, Value.slice none 0 0, Value.slice none 0 0] 25] ++ [AObj.hole, AObj.hole]) (List.length H) [Value.int .i64 x0a, Value.slice x0ba x0bn x0bc, Value.slice x0ca x0cn x0cc].length (0 + 1) 1 = some [Value.slice x9a x9n x9c]) (h4 : getCells (H ++ [vo [Value.int .i64 x0a, Value.slice x0ba x0bn x0bc, Value.slice x0ca x0cn x0cc] 25] ++ [vo [Value.int .i64 0, Value.slice none 0 0, Value.slice none 0 0] 25] ++ [AObj.hole, AObj.hole]) (List.length H) [Value.int .i64 x0a, Value.slice x0ba x0bn x0bc, Value.slice x0ca x0cn x0cc].length (0 + 2) 1 = some [Value.slice x11a x11n x11c]) (h5 : placeA (List.length (H ++ [vo [Value.int .i64 x0a, Value.slice x0ba x0bn x0bc, Value.slice x0ca x0cn x0cc] 25] ++ [vo [Value.int .i64 0, Value.slice none 0 0, Value.slice none 0 0] 25]) + 0) (H ++ [vo [Value.int .i64 x0a, Value.slice x0ba x0bn x0bc, Value.slice x0ca x0cn x0cc] 25] ++ [vo [Value.int .i64 0, Value.slice none 0 0, Value.slice none 0 0] 25] ++ [AObj.hole, AObj.hole]) (amakeSlice cfg.P 23 (Value.int .i64 (↑x11n : Int)) (Value.int .i64 (↑x11n : Int)) (H ++ [vo [Value.int .i64 x0a, Value.slice x0ba x0bn x0bc, Value.slice x0ca x0cn x0cc] 25] ++ [vo [Value.int .i64 0, Value.slice none 0 0, Value.slice none 0 0] 25] ++ [AObj.hole, AObj.hole])) = some (Value.slice x13a x13n x13c, H1)) (h6 : H1[List.length (H ++ [vo [Value.int .i64 x0a, Value.slice x0ba x0bn x0bc, Value.slice x0ca x0cn x0cc] 25] ++ [vo [Value.int .i64 0, Value.slice none 0 0, Value.slice none 0 0] 25]) + 1]? = some AObj.hole) (h7 : [Value.int .i64 x7, Value.slice x9a x9n x9c, Value.slice x13a x13n x13c].length = 3) (h8 : setCells (List.set H1 (List.length (H ++ [vo [Value.int .i64 x0a, Value.slice x0ba x0bn x0bc, Value.slice x0ca x0cn x0cc] 25] ++ [vo [Value.int .i64 0, Value.slice none 0 0, Value.slice none 0 0] 25]) + 1) (vo [Value.int .i64 0, Value.slice none 0 0, Value.slice none 0 0] 25)) (List.length H) (List.length (H ++ [vo [Value.int .i64 x0a, Value.slice x0ba x0bn x0bc, Value.slice x0ca x0cn x0cc] 25] ++ [vo [Value.int .i64 0, Value.slice none 0 0, Value.slice none 0 0] 25]) + 1) [Value.int .i64 0, Value.slice none 0 0, Value.slice none 0 0].length 0 [Value.int .i64 x7, Value.slice x9a x9n x9c, Value.slice x13a x13n x13c] = some H2) (h9 : getCells H2 (List.length H) [Value.int .i64 x0a, Value.slice x0ba x0bn x0bc, Value.slice x0ca x0cn x0cc].length (0 + 2) 1 = some [Value.slice x16a x16n x16c]) (h10 : lpInf (lpOf cfg a40 0 prot H) ([Value.pointer (some ⟨List.length (H ++ [vo [Value.int .i64 x0a, Value.slice x0ba x0bn x0bc, Value.slice x0ca x0cn x0cc] 25]), 0, some [Value.int .i64 0, Value.slice none 0 0, Value.slice none 0 0].length⟩), Value.pointer (some ⟨List.length (H ++ [vo [Value.int .i64 x0a, Value.slice x0ba x0bn x0bc, Value.slice x0ca x0cn x0cc] 25] ++ [vo [Value.int .i64 0, Value.slice none 0 0, Value.slice none 0 0] 25]) + 1, 0, some [Value.int .i64 0, Value.slice none 0 0, Value.slice none 0 0].length⟩), Value.slice x16a x16n x16c, Value.int .i64 (↑x16n : Int), Value.int .i64 0], H2) = some (Ex.exit 0, [Value.pointer (some ⟨z2p, z2o, some z2l⟩), Value.pointer (some ⟨z3p, z3o, some z3l⟩)], H3)) (h11 : getCells H3 z3p z3l z3o 3 = some [Value.int .i64 x30a, Value.slice x30ba x30bn x30bc, Value.slice x30ca x30cn x30cc]) (h12 : [Value.int .i64 x30a, Value.slice x30ba x30bn x30bc, Value.slice x30ca x30cn x30cc].length = 3) (h13 : setCells H3 (List.length H) z2p z2l z2o [Value.int .i64 x30a, Value.slice x30ba x30bn x30bc, Value.slice x30ca x30cn x30cc] = some H4) (h14 : getCells H4 z2p z2l z2o 3 = some [Value.int .i64 wa, Value.slice wba wbn wbc, Value.slice wca wcn wcc]) (h15 : pfin a40 H [Value.agg { toList := [Value.int .i64 wa, Value.slice wba wbn wbc, Value.slice wca wcn wcc] }] H4 = (rv, rH)) : callInf cfg 40 [.agg #[.int .i64 x0a, .slice x0ba x0bn x0bc, .slice x0ca x0cn x0cc]] prot H = some (rv, rH) :=
  fn_of2 a40 [.e, .e, .v (.int .i64 x7), .v (.slice x9a x9n x9c), .v (.slice x11a x11n x11c), .e, .r (.slice x13a x13n x13c) H1, .e, .e, .h H2, .v (.slice x16a x16n x16c), .e, .lo (.exit 0, [.pointer (some ⟨z2p, z2o, some z2l⟩), .pointer (some ⟨z3p, z3o, some z3l⟩)], H3), .v (.agg #[.int .i64 x30a, .slice x30ba x30bn x30bc, .slice x30ca x30cn x30cc]), .h H4, .v (.agg #[.int .i64 wa, .slice wba wbn wbc, .slice wca wcn wcc])] (ai h1 (ai h2 (ai h3 (ai h4 (ai h5 (ai h6 (ai h7 (ai h8 (ai h9 (ai h10 (ai h11 (ai h12 (ai h13 (ai h14 h15)))))))))))))) (by kernel_rfl) rfl
theorem f40_L0_0 {x2p x2o x2l x3p x3o x3l : Nat} {x16a : Option Addr} {x16n x16c : Nat} {x17 x18 : Int} {H0 : AHeap} {prot : Nat} {H : AHeap} {x21p x21o x21l : Nat} {x22 : Bool} {x24a : Option Addr} {x24n x24c x28p x28o x28l : Nat} {H2 : AHeap} (h1 : x18 < x17) (h2 : aindexAddr cfg.P 23 (Value.slice x16a x16n x16c) (Value.int .i64 x18) = some (Value.pointer (some ⟨x21p, x21o, some x21l⟩))) (h3 : getCells H x21p x21l x21o 1 = some [Value.bool x22]) (h4 : getCells H x3p x3l (x3o + 2) 1 = some [Value.slice x24a x24n x24c]) (h5 : aindexAddr cfg.P 23 (Value.slice x24a x24n x24c) (Value.int .i64 x18) = some (Value.pointer (some ⟨x28p, x28o, some x28l⟩))) (h6 : [Value.bool !x22].length = 1) (h7 : setCells H (List.length H0) x28p x28l x28o [Value.bool !x22] = some H2) (h8 : Fit .i64 (x18 + 1)) : lpOf cfg a40 0 prot H0 ([.pointer (some ⟨x2p, x2o, some x2l⟩), .pointer (some ⟨x3p, x3o, some x3l⟩), .slice x16a x16n x16c, .int .i64 x17, .int .i64 x18], H) = some (Sum.inl ([Value.pointer (some ⟨x2p, x2o, some x2l⟩), Value.pointer (some ⟨x3p, x3o, some x3l⟩), Value.slice x16a x16n x16c, Value.int .i64 x17, Value.int .i64 (x18 + 1)], H2)) :=
  lp_of2 [.e, .b true, .v (.pointer (some ⟨x21p, x21o, some x21l⟩)), .v (.bool x22), .v (.slice x24a x24n x24c), .e, .v (.pointer (some ⟨x28p, x28o, some x28l⟩)), .h H2, .e] (ai (decide_eq_true h1) (ai h2 (ai h3 (ai h4 (ai h5 (ai h6 (ai h7 (ai h8 (Eq.refl (Sum.inl ([Value.pointer (some ⟨x2p, x2o, some x2l⟩), Value.pointer (some ⟨x3p, x3o, some x3l⟩), Value.slice x16a x16n x16c, Value.int .i64 x17, Value.int .i64 (x18 + 1)], H2) : LS ⊕ LO)))))))))) (by kernel_rfl)
theorem f40_L0_1 {x2p x2o x2l x3p x3o x3l : Nat} {x16a : Option Addr} {x16n x16c : Nat} {x17 x18 : Int} {H0 : AHeap} {prot : Nat} {H : AHeap} (h1 : ¬(x18 < x17)) : lpOf cfg a40 0 prot H0 ([.pointer (some ⟨x2p, x2o, some x2l⟩), .pointer (some ⟨x3p, x3o, some x3l⟩), .slice x16a x16n x16c, .int .i64 x17, .int .i64 x18], H) = some (Sum.inr (Ex.exit 0, [Value.pointer (some ⟨x2p, x2o, some x2l⟩), Value.pointer (some ⟨x3p, x3o, some x3l⟩)], H)) :=
  lp_of2 [.e, .b false] (ai (decide_eq_false h1) (Eq.refl (Sum.inr (Ex.exit 0, [Value.pointer (some ⟨x2p, x2o, some x2l⟩), Value.pointer (some ⟨x3p, x3o, some x3l⟩)], H) : LS ⊕ LO))) (by kernel_rfl)
end Go.Proofs.Ythjkodbinkiifaa.Am23
set_option linter.unusedVariables false
open Go Go.Proofs.Ythjkodbinkiifaa.Am
namespace Go.Proofs.Ythjkodbinkiifaa.Am23
theorem f18_F_0 {x0a : Int} {x0ba : Option Addr} {x0bn x0bc : Nat} {x0ca : Option Addr} {x0cn x0cc : Nat} {H : AHeap} {prot : Nat} {x8a : Int} {x8ba : Option Addr} {x8bn x8bc : Nat} {x8ca : Option Addr} {x8cn x8cc : Nat} {x9 : Int} {H1 : AHeap} {wa wb wc : ByteArray} (h1 : [Value.int .i64 x0a, Value.slice x0ba x0bn x0bc, Value.slice x0ca x0cn x0cc].all isCell = true) (h2 : getCells (H ++ [vo [Value.int .i64 x0a, Value.slice x0ba x0bn x0bc, Value.slice x0ca x0cn x0cc] 25] ++ [vo [Value.string { data := { toList := [] } }, Value.string { data := { toList := [] } }, Value.string { data := { toList := [] } }] 29]) (List.length H) [Value.int .i64 x0a, Value.slice x0ba x0bn x0bc, Value.slice x0ca x0cn x0cc].length 0 3 = some [Value.int .i64 x8a, Value.slice x8ba x8bn x8bc, Value.slice x8ca x8cn x8cc]) (h3 : callInf cfg 36 [Value.agg { toList := [Value.int .i64 x8a, Value.slice x8ba x8bn x8bc, Value.slice x8ca x8cn x8cc] }] (List.length H) (H ++ [vo [Value.int .i64 x0a, Value.slice x0ba x0bn x0bc, Value.slice x0ca x0cn x0cc] 25] ++ [vo [Value.string { data := { toList := [] } }, Value.string { data := { toList := [] } }, Value.string { data := { toList := [] } }] 29]) = some (Value.int .i64 x9, H ++ [vo [Value.int .i64 x0a, Value.slice x0ba x0bn x0bc, Value.slice x0ca x0cn x0cc] 25] ++ [vo [Value.string { data := { toList := [] } }, Value.string { data := { toList := [] } }, Value.string { data := { toList := [] } }] 29])) (h4 : (x9 != 0) = true) (h5 : [Value.string { data := { toList := [] } }, Value.string { data := { toList := [] } }, Value.string { data := { toList := [] } }].length = 3) (h6 : setCells (H ++ [vo [Value.int .i64 x0a, Value.slice x0ba x0bn x0bc, Value.slice x0ca x0cn x0cc] 25] ++ [vo [Value.string { data := { toList := [] } }, Value.string { data := { toList := [] } }, Value.string { data := { toList := [] } }] 29]) (List.length H) (List.length (H ++ [vo [Value.int .i64 x0a, Value.slice x0ba x0bn x0bc, Value.slice x0ca x0cn x0cc] 25])) [Value.string { data := { toList := [] } }, Value.string { data := { toList := [] } }, Value.string { data := { toList := [] } }].length 0 [Value.string { data := { toList := [] } }, Value.string { data := { toList := [] } }, Value.string { data := { toList := [] } }] = some H1) (h7 : getCells H1 (List.length (H ++ [vo [Value.int .i64 x0a, Value.slice x0ba x0bn x0bc, Value.slice x0ca x0cn x0cc] 25])) [Value.string { data := { toList := [] } }, Value.string { data := { toList := [] } }, Value.string { data := { toList := [] } }].length 0 3 = some [Value.string wa, Value.string wb, Value.string wc]) : callInf cfg 18 [.agg #[.int .i64 x0a, .slice x0ba x0bn x0bc, .slice x0ca x0cn x0cc]] prot H = some (Value.tuple { toList := [Value.bool false, Value.agg { toList := [Value.string wa, Value.string wb, Value.string wc] }, Value.int .i64 x9] }, H) :=
  fn_of2 a18 [.e, .e, .v (.agg #[.int .i64 x8a, .slice x8ba x8bn x8bc, .slice x8ca x8cn x8cc]), .v (.int .i64 x9), .e, .b true, .e, .h H1, .v (.agg #[.string wa, .string wb, .string wc])] (ai h1 (ai h2 (ai h3 (ai h4 (ai h5 (ai h6 (ai h7 (Eq.refl ((Value.tuple { toList := [Value.bool false, Value.agg { toList := [Value.string wa, Value.string wb, Value.string wc] }, Value.int .i64 x9] }, H) : Value × AHeap))))))))) (by kernel_rfl) rfl
theorem f18_F_1 {x0a : Int} {x0ba : Option Addr} {x0bn x0bc : Nat} {x0ca : Option Addr} {x0cn x0cc : Nat} {H : AHeap} {prot : Nat} {x8a : Int} {x8ba : Option Addr} {x8bn x8bc : Nat} {x8ca : Option Addr} {x8cn x8cc : Nat} {x9 x15a : Int} {x15ba : Option Addr} {x15bn x15bc : Nat} {x15ca : Option Addr} {x15cn x15cc : Nat} {x16a : Int} {x16ba : Option Addr} {x16bn x16bc : Nat} {x16ca : Option Addr} {x16cn x16cc : Nat} {H1 : AHeap} {x17a : Bool} {x17ba x17bb x17bc : ByteArray} {H2 : AHeap} {x21a x21b x21c : ByteArray} {H3 : AHeap} {wa wb wc : ByteArray} (h1 : [Value.int .i64 x0a, Value.slice x0ba x0bn x0bc, Value.slice x0ca x0cn x0cc].all isCell = true) (h2 : getCells (H ++ [vo [Value.int .i64 x0a, Value.slice x0ba x0bn x0bc, Value.slice x0ca x0cn x0cc] 25] ++ [vo [Value.string { data := { toList := [] } }, Value.string { data := { toList := [] } }, Value.string { data := { toList := [] } }] 29]) (List.length H) [Value.int .i64 x0a, Value.slice x0ba x0bn x0bc, Value.slice x0ca x0cn x0cc].length 0 3 = some [Value.int .i64 x8a, Value.slice x8ba x8bn x8bc, Value.slice x8ca x8cn x8cc]) (h3 : callInf cfg 36 [Value.agg { toList := [Value.int .i64 x8a, Value.slice x8ba x8bn x8bc, Value.slice x8ca x8cn x8cc] }] (List.length H) (H ++ [vo [Value.int .i64 x0a, Value.slice x0ba x0bn x0bc, Value.slice x0ca x0cn x0cc] 25] ++ [vo [Value.string { data := { toList := [] } }, Value.string { data := { toList := [] } }, Value.string { data := { toList := [] } }] 29]) = some (Value.int .i64 x9, H ++ [vo [Value.int .i64 x0a, Value.slice x0ba x0bn x0bc, Value.slice x0ca x0cn x0cc] 25] ++ [vo [Value.string { data := { toList := [] } }, Value.string { data := { toList := [] } }, Value.string { data := { toList := [] } }] 29])) (h4 : (x9 != 0) = false) (h5 : getCells (H ++ [vo [Value.int .i64 x0a, Value.slice x0ba x0bn x0bc, Value.slice x0ca x0cn x0cc] 25] ++ [vo [Value.string { data := { toList := [] } }, Value.string { data := { toList := [] } }, Value.string { data := { toList := [] } }] 29]) (List.length H) [Value.int .i64 x0a, Value.slice x0ba x0bn x0bc, Value.slice x0ca x0cn x0cc].length 0 3 = some [Value.int .i64 x15a, Value.slice x15ba x15bn x15bc, Value.slice x15ca x15cn x15cc]) (h6 : callInf cfg 40 [Value.agg { toList := [Value.int .i64 x15a, Value.slice x15ba x15bn x15bc, Value.slice x15ca x15cn x15cc] }] (List.length H) (H ++ [vo [Value.int .i64 x0a, Value.slice x0ba x0bn x0bc, Value.slice x0ca x0cn x0cc] 25] ++ [vo [Value.string { data := { toList := [] } }, Value.string { data := { toList := [] } }, Value.string { data := { toList := [] } }] 29]) = some (Value.agg { toList := [Value.int .i64 x16a, Value.slice x16ba x16bn x16bc, Value.slice x16ca x16cn x16cc] }, H1)) (h7 : callInf cfg 37 [Value.agg { toList := [Value.int .i64 x16a, Value.slice x16ba x16bn x16bc, Value.slice x16ca x16cn x16cc] }] (List.length H) H1 = some (Value.tuple { toList := [Value.bool x17a, Value.agg { toList := [Value.string x17ba, Value.string x17bb, Value.string x17bc] }] }, H1)) (h8 : [Value.string x17ba, Value.string x17bb, Value.string x17bc].length = 3) (h9 : setCells (H1 ++ [vo [Value.string { data := { toList := [] } }, Value.string { data := { toList := [] } }, Value.string { data := { toList := [] } }] 29]) (List.length H) (List.length H1) [Value.string { data := { toList := [] } }, Value.string { data := { toList := [] } }, Value.string { data := { toList := [] } }].length 0 [Value.string x17ba, Value.string x17bb, Value.string x17bc] = some H2) (h10 : getCells H2 (List.length H1) [Value.string { data := { toList := [] } }, Value.string { data := { toList := [] } }, Value.string { data := { toList := [] } }].length 0 3 = some [Value.string x21a, Value.string x21b, Value.string x21c]) (h11 : [Value.string x21a, Value.string x21b, Value.string x21c].length = 3) (h12 : setCells H2 (List.length H) (List.length (H ++ [vo [Value.int .i64 x0a, Value.slice x0ba x0bn x0bc, Value.slice x0ca x0cn x0cc] 25])) [Value.string { data := { toList := [] } }, Value.string { data := { toList := [] } }, Value.string { data := { toList := [] } }].length 0 [Value.string x21a, Value.string x21b, Value.string x21c] = some H3) (h13 : getCells H3 (List.length (H ++ [vo [Value.int .i64 x0a, Value.slice x0ba x0bn x0bc, Value.slice x0ca x0cn x0cc] 25])) [Value.string { data := { toList := [] } }, Value.string { data := { toList := [] } }, Value.string { data := { toList := [] } }].length 0 3 = some [Value.string wa, Value.string wb, Value.string wc]) : callInf cfg 18 [.agg #[.int .i64 x0a, .slice x0ba x0bn x0bc, .slice x0ca x0cn x0cc]] prot H = some (Value.tuple { toList := [Value.bool x17a, Value.agg { toList := [Value.string wa, Value.string wb, Value.string wc] }, Value.int .i64 0] }, H) :=
  fn_of2 a18 [.e, .e, .v (.agg #[.int .i64 x8a, .slice x8ba x8bn x8bc, .slice x8ca x8cn x8cc]), .v (.int .i64 x9), .e, .b false, .v (.agg #[.int .i64 x15a, .slice x15ba x15bn x15bc, .slice x15ca x15cn x15cc]), .r (.agg #[.int .i64 x16a, .slice x16ba x16bn x16bc, .slice x16ca x16cn x16cc]) H1, .v (.tuple #[.bool x17a, .agg #[.string x17ba, .string x17bb, .string x17bc]]), .e, .h H2, .v (.agg #[.string x21a, .string x21b, .string x21c]), .h H3, .v (.agg #[.string wa, .string wb, .string wc])] (ai h1 (ai h2 (ai h3 (ai h4 (ai h5 (ai h6 (ai h7 (ai h8 (ai h9 (ai h10 (ai h11 (ai h12 (ai h13 (Eq.refl ((Value.tuple { toList := [Value.bool x17a, Value.agg { toList := [Value.string wa, Value.string wb, Value.string wc] }, Value.int .i64 0] }, H) : Value × AHeap))))))))))))))) (by kernel_rfl) rfl
end Go.Proofs.Ythjkodbinkiifaa.Am23
namespace Go.Proofs.Ythjkodbinkiifaa.Am
open Go
theorem make_eq {P : Program} {t e s by_ : Nat} (T : ElemT P t e s by_) {H : AHeap} {n : Nat} {z : Value} (hz : tzero P e = some z) (hzp : (cellsOf z).all plain0 = true) (hzl : (cellsOf z).length = s) (hn : n * by_ ≤ 140737488355328) (hn2 : n ≤ 140737488355328) :
    amakeSlice P t (.int .i64 (n : Int)) (.int .i64 (n : Int)) H = some (sliceTo H (n * s) n, newObj H (repCells (cellsOf z) n) e) := by
  unfold amakeSlice
  simp only [T.sl, T.sz, T.bt, hz, Option.bind_some]
  have h1 : (by_ : Int) * (n : Int) ≤ 2 ^ 48 := by
    have : ((n * by_ : Nat) : Int) ≤ 140737488355328 := by omega
    rw [Int.mul_comm]
    push_cast at this
    omega
  rw [if_pos ⟨by omega, trivial, by omega, h1, hzp, hzl, T.s0⟩]
  simp
theorem place_make {H : AHeap} {e s n hid : Nat} {cs : List Value} (hl : cs.length = n * s) (hn : 0 < n) (hh : H[hid]? = some .hole) :
    ∃ H', placeA hid H (some (sliceTo H (n * s) n, newObj H cs e)) = some (.slice (some ⟨hid, 0, some (n * s)⟩) n n, H') ∧ Own H' e s (.slice (some ⟨hid, 0, some (n * s)⟩) n n) (some hid) n cs ∧ Stay (some hid) H H' ∧ H'.length = H.length := by
  have hl2 := (List.getElem?_eq_some_iff.1 hh).1
  refine ⟨H.set hid (.cells cs e cs.length .row), ?_, ⟨hl, hn, by rw [hl], cs.length, Nat.le_refl _, List.getElem?_set_self hl2⟩, ⟨by simp, fun q _ hq => List.getElem?_set_ne (fun e => hq (by rw [e]))⟩, by simp⟩
  unfold placeA
  simp only [Option.bind_some, newObj]
  rw [append_get.1, hh]
  simp only [sliceTo, renTop]
  simp
end Go.Proofs.Ythjkodbinkiifaa.Am
namespace Go.Proofs.Ythjkodbinkiifaa.Am23
open Go Go.Proofs.Ythjkodbinkiifaa.Am

theorem loop40 {k : Nat} {bs : List Bool} {vN vA x24 : Value} {p2 p3 o : Nat} {H0 : AHeap} {prot : Nat} (hn : bs.length ≤ 100000) (hlo : Low H0.length vA) (h3 : H0.length ≤ p3) (ho : H0.length ≤ o) (hne : o ≠ p3) : ∀ (d i : Nat) (D : List Bool) (H : AHeap), i + d = bs.length → D.length = bs.length →
    (∀ s, s < i → D.getD s false = !(bs.getD s false)) → Rd H 4 1 vA bs.length (bll bs) → H[p3]? = some (bx k vN x24) → Own H 4 1 x24 (some o) bs.length (bll D) →
    ∃ H', lpInf (lpOf cfg a40 0 prot H0) ([.pointer (some ⟨p2, 0, some 3⟩), .pointer (some ⟨p3, 0, some 3⟩), vA, .int .i64 bs.length, .int .i64 i], H) = some (.exit 0, [.pointer (some ⟨p2, 0, some 3⟩), .pointer (some ⟨p3, 0, some 3⟩)], H') ∧ Own H' 4 1 x24 (some o) bs.length (bll (bs.map (!·))) ∧ Stay (some o) H H' ∧ H'[p3]? = some (bx k vN x24)
  | 0, i, D, H, hi, hD, hs, hA, hp, w => by
    obtain ⟨aA, cA, rfl⟩ := hA.len
    have : D = bs.map (!·) := by
      refine ext_getD (by simp [hD]) (fun s hs' => ?_)
      rw [hs s (by omega), List.getD_eq_getElem?_getD, List.getD_eq_getElem?_getD, List.getElem?_map, List.getElem?_eq_getElem (show s < bs.length by omega)]
      rfl
    subst this
    exact ⟨H, lp_last (f40_L0_1 (by omega)), w, Stay.refl _ _, hp⟩
  | d + 1, i, D, H, hi, hD, hs, hA, hp, w => by
    obtain ⟨aA, cA, rfl⟩ := hA.len
    obtain ⟨a4, c4, rfl⟩ := w.len
    have hin : i < bs.length := by omega
    obtain ⟨idA, LA, n1, n2⟩ := rd_at T23 hA (bl_at hin)
    obtain ⟨_, _, g2, _⟩ := fld3 hp
    obtain ⟨_, H2, e, s1, s2, s3, s4, s5⟩ := own_setS T23 w (i := i) (j := 0) hin (vs := [.bool (!bs.getD i false)]) (by simp) rfl (prot := H0.length) (fun id hh => by cases hh; exact ho)
    cases e
    rw [put_bl _ (by omega)] at s3
    have hp2 : H2[p3]? = some (bx k vN (.slice a4 bs.length c4)) := by rw [s4.2 _ (List.getElem?_eq_some_iff.1 hp).1 (fun hh => hne (Option.some.inj hh))]; exact hp
    obtain ⟨H', u1, u2, u3, u4⟩ := loop40 (prot := prot) (p2 := p2) hn hlo h3 ho hne d (i + 1) _ H2 (by omega) (by simp [hD]) (fun s hs' => by
      rw [getD_setB (by omega)]
      by_cases he : s = i
      · subst he; rw [if_pos rfl]
      · rw [if_neg he]; exact hs s (by omega)) (hA.stayLow hlo s4 (fun id hh => by cases hh; exact ho)) hp2 s3
    exact ⟨H', lp_next (f40_L0_0 (by omega) n1 n2 g2 s1 rfl s2 (fit64 (by omega) (by omega))) u1, u2, s4.trans u3, u4⟩

theorem c40 {k : Nat} {xs : List Int} {bs : List Bool} {vN vA : Value} (hG : Good k xs bs) (prot : Nat) (H : AHeap) (hA : IsA H xs bs vN vA) :
    ∃ vA' H', callInf cfg 40 [av k vN vA] prot H = some (av k vN vA', H') ∧ IsA H' xs (bs.map (!·)) vN vA' ∧ Stay none H H' := by
  have hb1 := hG.n1
  have hb5 := hG.n5
  have lA := hA.a.low
  obtain ⟨B0, hB0⟩ : ∃ B0, B0 = AObj.cells [.int .i64 0, .slice none 0 0, .slice none 0 0] 25 3 .var := ⟨_, rfl⟩
  obtain ⟨HX, hHX⟩ : ∃ HX, HX = H ++ [bx k vN vA] ++ [B0] ++ [.hole, .hole] := ⟨_, rfl⟩
  have lX : HX.length = H.length + 4 := by rw [hHX]; simp
  have sX : Stay none H HX := by rw [hHX]; exact ((Stay.app none H _).trans (Stay.app none _ _)).trans (Stay.app none _ _)
  have hgX : HX[H.length]? = some (bx k vN vA) := by rw [hHX, List.append_assoc, List.append_assoc, List.getElem?_append_right (by omega)]; simp
  have hgX1 : HX[H.length + 1]? = some B0 := by rw [hHX, List.append_assoc, List.append_assoc, List.getElem?_append_right (by omega)]; simp
  have hgX2 : HX[H.length + 2]? = some .hole := by rw [hHX, List.append_assoc, List.append_assoc, List.getElem?_append_right (by omega)]; simp
  have hgX3 : HX[H.length + 3]? = some .hole := by rw [hHX, List.append_assoc, List.append_assoc, List.getElem?_append_right (by omega)]; simp
  have hm := make_eq T23 (H := HX) (n := bs.length) (z := .bool false) (by kernel_rfl) rfl rfl (by omega) (by omega)
  have hrep : (repCells (cellsOf (.bool false)) bs.length) = bll (List.replicate bs.length false) := by
    unfold bll
    rw [List.map_replicate]
    have := rep_map (fun _ : Nat => Value.bool false) 0 bs.length
    rw [List.map_replicate] at this
    exact this
  rw [hrep] at hm
  obtain ⟨H1, q1, q2, q3, q4⟩ := place_make (e := 4) (s := 1) (cs := bll (List.replicate bs.length false)) (by simp [bll]) hb1 hgX2
  rw [← hm] at q1
  have hg13 : H1[H.length + 3]? = some .hole := by rw [q3.2 _ (by omega) (fun h => by have := Option.some.inj h; omega)]; exact hgX3
  obtain ⟨H1', hH1'⟩ : ∃ H1', H1' = H1.set (H.length + 3) B0 := ⟨_, rfl⟩
  have s1' : Stay (some (H.length + 3)) H1 H1' := by rw [hH1']; exact ⟨by simp, fun q _ hq => List.getElem?_set_ne (fun e => hq (by rw [e]))⟩
  have l1' : H1'.length = H.length + 4 := by rw [hH1']; simp; omega
  have hg1' : H1'[H.length + 3]? = some B0 := by rw [hH1']; exact List.getElem?_set_self (by omega)
  rw [hB0] at hg1'
  obtain ⟨H2, u1, u2, u3, u4⟩ := set3s hg1' (show H.length ≤ H.length + 3 by omega) (x := .int .i64 k) (y := vN) (z := .slice (some ⟨H.length + 2, 0, some (bs.length * 1)⟩) bs.length bs.length) (by obtain ⟨_, _, rfl⟩ := hA.n.len; rfl)
  have st2 : Stay none H H2 := ((sX.over q3 (fun id h => by have := Option.some.inj h; omega)).over s1' (fun id h => by have := Option.some.inj h; omega)).over u3 (fun id h => by have := Option.some.inj h; omega)
  have l2 := u3.1
  obtain ⟨_, _, f2, _⟩ := fld3 u4
  have hA2 := hA.stay st2
  have w2 := (q2.stay s1' (fun id h1 h2 => by have := Option.some.inj h1; have := Option.some.inj h2; omega)).stay u3 (fun id h1 h2 => by have := Option.some.inj h1; have := Option.some.inj h2; omega)
  have hg21 : H2[H.length + 1]? = some B0 := by rw [u3.2 _ (by omega) (fun h => by have := Option.some.inj h; omega), s1'.2 _ (by omega) (fun h => by have := Option.some.inj h; omega), q3.2 _ (by omega) (fun h => by have := Option.some.inj h; omega)]; exact hgX1
  have hg20 : H2[H.length]? = some (bx k vN vA) := by rw [u3.2 _ (by omega) (fun h => by have := Option.some.inj h; omega), s1'.2 _ (by omega) (fun h => by have := Option.some.inj h; omega), q3.2 _ (by omega) (fun h => by have := Option.some.inj h; omega)]; exact hgX
  obtain ⟨H3, v1, v2, v3, v4⟩ := loop40 (k := k) (vN := vN) (prot := prot) (p2 := H.length + 1) (by omega) lA (show H.length ≤ H.length + 3 by omega) (show H.length ≤ H.length + 2 by omega) (by omega) bs.length 0 _ H2 (by omega) (by simp) (fun s hs => by omega) hA2.a u4 w2
  have hg31 : H3[H.length + 1]? = some B0 := by rw [v3.2 _ (by omega) (fun h => by have := Option.some.inj h; omega)]; exact hg21
  rw [hB0] at hg31
  obtain ⟨H4, y1, y2, y3, y4⟩ := set3s hg31 (show H.length ≤ H.length + 1 by omega) (x := .int .i64 k) (y := vN) (z := .slice (some ⟨H.length + 2, 0, some (bs.length * 1)⟩) bs.length bs.length) (by obtain ⟨_, _, rfl⟩ := hA.n.len; rfl)
  have st4 : Stay none H H4 := (st2.over v3 (fun id h => by have := Option.some.inj h; omega)).over y3 (fun id h => by have := Option.some.inj h; omega)
  have w4 := v2.stay y3 (fun id h1 h2 => by have := Option.some.inj h1; have := Option.some.inj h2; omega)
  refine ⟨_, H4, ?_, ⟨(hA.stay st4).n, by rw [List.length_map]; exact w4.rd⟩, st4⟩
  obtain ⟨_, _, _, f4⟩ := fld3 v4
  obtain ⟨aN, cN, rfl⟩ := hA.n.len
  obtain ⟨aA, cA, rfl⟩ := hA.a.len
  obtain ⟨g0, g1, g2, _⟩ := fld3 hgX
  obtain ⟨_, _, k2, _⟩ := fld3 hg20
  have e1 : (H ++ [bx k (.slice aN xs.length cN) (.slice aA bs.length cA)]).length = H.length + 1 := by simp
  have e2 : (H ++ [bx k (.slice aN xs.length cN) (.slice aA bs.length cA)] ++ [B0]).length = H.length + 2 := by simp
  have hp : plain0 (.slice (some ⟨H.length + 2, 0, some (bs.length * 1)⟩) bs.length bs.length) = false := rfl
  rw [show H.length + 3 = (H ++ [bx k (.slice aN xs.length cN) (.slice aA bs.length cA)] ++ [B0]).length + 1 by rw [e2]] at hg13 u1 v1 f4 hH1'
  rw [show H.length + 2 = (H ++ [bx k (.slice aN xs.length cN) (.slice aA bs.length cA)] ++ [B0]).length + 0 by rw [e2]] at q1 u1 f4 y1 y2 hp ⊢
  rw [← e1] at v1 y1 y2
  subst hHX; subst hH1'; subst hB0
  exact f40_F_0 _ _ all3 g0 g1 g2 q1 hg13 rfl u1 k2 v1 f4 rfl y1 y2 (pfin_agg rfl (plain_no2 hp))

theorem c18 {k : Int} {xs : List Int} {bs : List Bool} {vN vA : Value} (prot : Nat) (H : AHeap) (hA : IsA H xs bs vN vA) :
    callInf cfg 18 [av k vN vA] prot H = some (.tuple #[.bool (finV k xs (bs.map (!·))).1, pv (finV k xs (bs.map (!·))).2.1, .int .i64 (finV k xs (bs.map (!·))).2.2], H) := by
  have hcx : chkG k xs (bs.map (!·)) = chkG k xs bs := by unfold chkG good; simp only [List.length_map]
  obtain ⟨B0, hB0⟩ : ∃ B0, B0 = AObj.cells [.string ByteArray.empty, .string ByteArray.empty, .string ByteArray.empty] 29 3 .var := ⟨_, rfl⟩
  obtain ⟨HX, hHX⟩ : ∃ HX, HX = H ++ [bx k vN vA] ++ [B0] := ⟨_, rfl⟩
  have lX : HX.length = H.length + 2 := by rw [hHX]; simp
  have sX : Stay none H HX := by rw [hHX]; exact (Stay.app none H _).trans (Stay.app none _ _)
  have hgX : HX[H.length]? = some (bx k vN vA) := by rw [hHX, List.getElem?_append_left (by simp)]; exact append_get.1
  have hgX1 : HX[H.length + 1]? = some B0 := by rw [hHX, List.getElem?_append_right (by simp)]; simp
  have hAX := hA.stay sX
  have hck := c36 (k := k) H.length HX hAX
  have e1 : (H ++ [bx k vN vA]).length = H.length + 1 := by simp
  by_cases h0 : chkG k xs bs = 0
  · obtain ⟨k', rfl, hG⟩ := good_of h0
    obtain ⟨vA', HZ, hc, hAZ, hZ⟩ := c40 hG H.length HX hAX
    have hb := c37 hG.not H.length HZ hAZ
    have hv : finV k' xs (bs.map (!·)) = ((boundV k' xs (bs.map (!·))).1, (boundV k' xs (bs.map (!·))).2, 0) := by unfold finV; rw [hcx, if_pos h0, Int.toNat_natCast]
    rw [hv]
    rw [h0] at hck
    obtain ⟨aN, cN, rfl⟩ := hA.n.len
    obtain ⟨aA, cA, rfl⟩ := hA.a.len
    obtain ⟨aA', cA', rfl⟩ := hAZ.a.len
    obtain ⟨_, _, _, gX⟩ := fld3 hgX
    have lZ := hZ.1
    have hgY : (HZ ++ [B0])[HZ.length]? = some B0 := append_get.1
    rw [hB0] at hgY
    obtain ⟨H1, u1, u2, u3, _⟩ := set3s hgY (show H.length ≤ HZ.length by omega) (x := .string (boundV k' xs (bs.map (!·))).2.1) (y := .string (boundV k' xs (bs.map (!·))).2.2.1) (z := .string (boundV k' xs (bs.map (!·))).2.2.2) rfl
    have hg1 : H1[H.length + 1]? = some B0 := by
      rw [u3.2 _ (by simp; omega) (fun h => by have := Option.some.inj h; omega), List.getElem?_append_left (by omega), hZ.2 _ (by omega) (by simp)]; exact hgX1
    rw [hB0] at hg1
    obtain ⟨H2, v1, v2, v3, _⟩ := set3s hg1 (show H.length ≤ H.length + 1 by omega) (x := .string (boundV k' xs (bs.map (!·))).2.1) (y := .string (boundV k' xs (bs.map (!·))).2.2.1) (z := .string (boundV k' xs (bs.map (!·))).2.2.2) rfl
    subst hHX; subst hB0
    rw [← e1] at v1 v2
    exact f18_F_1 all3 gX hck rfl gX hc hb rfl u1 u2 rfl v1 v2
  · have hv : finV k xs (bs.map (!·)) = (false, (ByteArray.empty, ByteArray.empty, ByteArray.empty), chkG k xs bs) := by unfold finV; rw [hcx, if_neg h0]
    rw [hv]
    obtain ⟨aN, cN, rfl⟩ := hA.n.len
    obtain ⟨aA, cA, rfl⟩ := hA.a.len
    obtain ⟨_, _, _, gX⟩ := fld3 hgX
    rw [hB0] at hgX1
    obtain ⟨H2, v1, v2, v3, _⟩ := set3s hgX1 (show H.length ≤ H.length + 1 by omega) (x := .string ByteArray.empty) (y := .string ByteArray.empty) (z := .string ByteArray.empty) rfl
    subst hHX; subst hB0
    rw [← e1] at v1 v2
    exact f18_F_0 all3 gX hck (by simpa using h0) rfl v1 v2
end Go.Proofs.Ythjkodbinkiifaa.Am23
set_option linter.unusedVariables false
open Go Go.Proofs.Ythjkodbinkiifaa.Am
namespace Go.Proofs.Ythjkodbinkiifaa.Am23
end Go.Proofs.Ythjkodbinkiifaa.Am23
namespace Go.Proofs.Ythjkodbinkiifaa.Am23
open Go Go.Proofs.Ythjkodbinkiifaa.Am

theorem pigeon : ∀ (n : Nat) (f : Nat → Nat), (∀ i, i ≤ n → f i < n) → ∃ i j, i < j ∧ j ≤ n ∧ f i = f j
  | 0, f, h => by have := h 0 (Nat.le_refl _); omega
  | n + 1, f, h => by
    by_cases hh : ∃ i, i ≤ n ∧ f i = f (n + 1)
    · obtain ⟨i, h1, h2⟩ := hh
      exact ⟨i, n + 1, by omega, by omega, h2⟩
    · have hne : ∀ i, i ≤ n → f i ≠ f (n + 1) := fun i hi he => hh ⟨i, hi, he⟩
      have hv := h (n + 1) (Nat.le_refl _)
      obtain ⟨i, j, h1, h2, h3⟩ := pigeon n (fun i => if f i = n then f (n + 1) else f i) (fun i hi => by
        have h1 := h i (by omega)
        have h2 := hne i hi
        split <;> omega)
      refine ⟨i, j, h1, by omega, ?_⟩
      have hi := hne i (by omega)
      have hj := hne j h2
      split at h3 <;> split at h3 <;> omega

theorem pass_pos {k : Nat} {xs : List Int} {bs : List Bool} (hG : Good k xs bs) {C : List Nat} : ∀ (d i : Nat) (D : List Nat), i + d = xs.length → D.length = bs.length → ∀ s, s < bs.length →
    (0 < (pass k xs C d i D).getD s 0 ↔ 0 < D.getD s 0 ∨ ∃ j, i ≤ j ∧ j < xs.length ∧ j / k = s ∧ 0 < C.getD (xs.getD j 0).toNat 0)
  | 0, i, D, hi, hD, s, hs => by
    simp only [pass]
    exact ⟨.inl, fun h => by rcases h with h | ⟨j, h1, h2, _⟩; exact h; omega⟩
  | d + 1, i, D, hi, hD, s, hs => by
    have hk := hG.k1
    have hxl := hG.nx
    have hsi : i / k < bs.length := Nat.div_lt_of_lt_mul (by rw [Nat.mul_comm]; omega)
    simp only [pass]
    rw [pass_pos hG d (i + 1) _ (by omega) (by simp [hD]) s hs, getD_set (by omega)]
    constructor
    · rintro (h | ⟨j, h1, h2, h3, h4⟩)
      · by_cases he : s = i / k
        · rw [if_pos he] at h
          by_cases hc : 0 < C.getD (xs.getD i 0).toNat 0
          · exact .inr ⟨i, Nat.le_refl _, by omega, he.symm, hc⟩
          · exact .inl (by rw [he]; omega)
        · rw [if_neg he] at h; exact .inl h
      · exact .inr ⟨j, by omega, h2, h3, h4⟩
    · rintro (h | ⟨j, h1, h2, h3, h4⟩)
      · by_cases he : s = i / k
        · rw [if_pos he]; subst he; exact .inl (by omega)
        · rw [if_neg he]; exact .inl h
      · by_cases he : j = i
        · subst he; rw [if_pos h3.symm]; exact .inl (by omega)
        · exact .inr ⟨j, by omega, h2, h3, h4⟩
/-- Words of a length are counted where there are some. -/
theorem row_pos {k : Nat} {xs : List Int} {bs : List Bool} (hG : Good k xs bs) : ∀ (m s : Nat), s < bs.length → (0 < (rowC k xs bs m).getD s 0 ↔ ∃ w, Wk k w ∧ w.length = m ∧ bs.getD (go k xs s w) false = true)
  | 0, s, hs => by
    simp only [rowC, List.getD_eq_getElem?_getD, List.getElem?_map, List.getElem?_eq_getElem hs, Option.map_some, Option.getD_some]
    constructor
    · intro h
      refine ⟨[], fun c hc => (by cases hc), rfl, ?_⟩
      show bs[s]?.getD false = true
      rw [List.getElem?_eq_getElem hs]
      cases hb : bs[s] with
      | true => rfl
      | false => rw [hb] at h; simp [b2n] at h
    · rintro ⟨w, _, h2, h3⟩
      obtain rfl := List.length_eq_zero_iff.1 h2
      have h3 : bs[s]?.getD false = true := h3
      rw [List.getElem?_eq_getElem hs] at h3
      have h3 : bs[s] = true := h3
      rw [h3]
      simp [b2n]
  | m + 1, s, hs => by
    have hk := hG.k1
    simp only [rowC]
    rw [pass_pos hG xs.length 0 _ (by omega) (by simp) s hs]
    have h0 : ¬ 0 < (List.replicate bs.length 0).getD s 0 := by rw [List.getD_eq_getElem?_getD, List.getElem?_replicate]; split <;> simp
    constructor
    · rintro (h | ⟨j, _, h2, h3, h4⟩)
      · exact absurd h h0
      · obtain ⟨t, ht, htl⟩ := hG.r j xs[j] (List.getElem?_eq_getElem h2)
        have hget : xs.getD j 0 = t := by rw [List.getD_eq_getElem?_getD, List.getElem?_eq_getElem h2, ht]; rfl
        rw [hget, Int.toNat_natCast] at h4
        obtain ⟨w, w1, w2, w3⟩ := (row_pos hG m t htl).1 h4
        have hdm := Nat.div_add_mod j k
        have e : s * k + j % k = j := by rw [← h3, Nat.mul_comm]; exact hdm
        refine ⟨(j % k) :: w, fun d hd => ?_, by simp [w2], ?_⟩
        · rcases List.mem_cons.1 hd with rfl | hd
          · exact Nat.mod_lt _ (by omega)
          · exact w1 d hd
        · show bs.getD (go k xs (tgt k xs s (j % k)) w) false = true
          unfold tgt
          rw [e, hget, Int.toNat_natCast]
          exact w3
    · rintro ⟨w, w1, w2, w3⟩
      cases w with
      | nil => cases w2
      | cons c w =>
        obtain ⟨h1, h2, h3⟩ := tgt_lt hG hs (w1 c List.mem_cons_self)
        have hck := w1 c List.mem_cons_self
        refine .inr ⟨s * k + c, by omega, h1, by rw [Nat.mul_comm, Nat.mul_add_div (by omega), Nat.div_eq_of_lt hck, Nat.add_zero], ?_⟩
        exact (row_pos hG m _ h2).2 ⟨w, fun d hd => w1 d (List.mem_cons_of_mem _ hd), by simpa using w2, w3⟩

/-- A long way goes round. -/
theorem round {k : Nat} {xs : List Int} {bs : List Bool} (hG : Good k xs bs) {w : List Nat} (hw : Wk k w) : ∃ i j, i < j ∧ j ≤ bs.length ∧ go k xs 0 (w.take i) = go k xs 0 (w.take j) := by
  have hb1 := hG.n1
  exact pigeon bs.length (fun i => go k xs 0 (w.take i)) (fun i _ => go_lt hG _ _ (fun c hc => hw c (List.mem_of_mem_take hc)) (by omega))
theorem wk_app {k : Nat} {u v : List Nat} (hu : Wk k u) (hv : Wk k v) : Wk k (u ++ v) := fun c hc => by
  rcases List.mem_append.1 hc with h | h
  · exact hu c h
  · exact hv c h
theorem shorten {k : Nat} {xs : List Int} {bs : List Bool} (hG : Good k xs bs) : ∀ (L : Nat) (w : List Nat), w.length ≤ L → bs.length ≤ w.length → Wk k w → bs.getD (go k xs 0 w) false = true →
    ∃ w', Wk k w' ∧ bs.length ≤ w'.length ∧ w'.length < 2 * bs.length ∧ bs.getD (go k xs 0 w') false = true
  | 0, w, hL, hn, hw, ha => by have := hG.n1; omega
  | L + 1, w, hL, hn, hw, ha => by
    by_cases h2 : w.length < 2 * bs.length
    · exact ⟨w, hw, hn, h2, ha⟩
    · obtain ⟨i, j, h3, h4, h5⟩ := round hG hw
      refine shorten hG L (w.take i ++ w.drop j) (by simp; omega) (by simp; omega) (wk_app (fun c hc => hw c (List.mem_of_mem_take hc)) (fun c hc => hw c (List.mem_of_mem_drop hc))) ?_
      rw [go_app, h5, ← go_app, List.take_append_drop]
      exact ha
theorem hope_at {k : Nat} {xs : List Int} {bs : List Bool} {s : Nat} (hs : s < bs.length) : (hopeL k xs bs).getD s false = true ↔ Hope k xs bs s := by
  rw [List.getD_eq_getElem?_getD, List.getElem?_eq_getElem (by rw [hopeL_len]; exact hs), Option.getD_some, hopeL_get]
  exact ⟨fun h => @of_decide_eq_true _ (Classical.propDecidable _) h, fun h => @decide_eq_true _ (Classical.propDecidable _) h⟩
theorem okB_iff {k : Nat} {xs : List Int} {bs : List Bool} (hG : Good k xs bs) {s : Nat} (hs : s < bs.length) : okB k xs bs.length (useL k xs bs) s = true ↔ (∃ u, Wk k u ∧ go k xs 0 u = s) ∧ Hope k xs bs s ∧ ∃ v, Wk k v ∧ go k xs s v = s ∧ v ≠ [] := by
  have hb1 := hG.n1
  unfold okB
  rw [useL_at hs, Bool.and_eq_true, Bool.and_eq_true, bfs_met hG (by omega) true, hope_at hs, bfs_met hG hs false]
  constructor
  · rintro ⟨⟨⟨u, u1, u2, _⟩, h2⟩, v, v1, v2, v3⟩
    exact ⟨⟨u, u1, u2⟩, h2, v, v1, v2, v3 rfl⟩
  · rintro ⟨⟨u, u1, u2⟩, h2, v, v1, v2, v3⟩
    exact ⟨⟨⟨u, u1, u2, fun h => by cases h⟩, h2⟩, v, v1, v2, fun _ => v3⟩
def pw (v : List Nat) : Nat → List Nat
  | 0 => []
  | n + 1 => v ++ pw v n
theorem pw_go {k : Nat} {xs : List Int} {s : Nat} {v : List Nat} (h : go k xs s v = s) : ∀ n, go k xs s (pw v n) = s
  | 0 => rfl
  | n + 1 => by rw [pw, go_app, h, pw_go h n]
theorem pw_wk {k : Nat} {v : List Nat} (h : Wk k v) : ∀ n, Wk k (pw v n)
  | 0 => fun c hc => by cases hc
  | n + 1 => wk_app h (pw_wk h n)
theorem pw_len {v : List Nat} (h : v ≠ []) : ∀ n, n ≤ (pw v n).length
  | 0 => Nat.zero_le _
  | n + 1 => by
    have := pw_len h n
    have h1 : 0 < v.length := List.length_pos_iff.2 h
    rw [pw, List.length_append]
    omega
/-- Not finite just where there is a word that is long, and not too long. -/
theorem finite_iff {k : Nat} {xs : List Int} {bs : List Bool} (hG : Good k xs bs) : (boundV k xs bs).1 = true ↔ ∀ m, bs.length ≤ m → m < 2 * bs.length → (rowC k xs bs m).getD 0 0 = 0 := by
  have hb1 := hG.n1
  have hbv : (boundV k xs bs).1 = true ↔ bestV k xs bs = none := by
    unfold boundV
    cases bestV k xs bs with
    | none => simp
    | some b => simp
  rw [hbv]
  constructor
  · intro h m h1 h2
    refine Nat.eq_zero_of_not_pos fun hp => ?_
    obtain ⟨w, w1, w2, w3⟩ := (row_pos hG m 0 (by omega)).1 hp
    obtain ⟨i, j, h3, h4, h5⟩ := round hG w1
    have hl : go k xs 0 (w.take i) < bs.length := go_lt hG _ _ (fun c hc => w1 c (List.mem_of_mem_take hc)) (by omega)
    obtain ⟨_, hn⟩ := pick_none _ _ _ h
    have := hn _ (Nat.zero_le _) (by omega : go k xs 0 (w.take i) < 0 + bs.length)
    rw [(okB_iff hG hl).2 ⟨⟨_, fun c hc => w1 c (List.mem_of_mem_take hc), rfl⟩, ⟨w.drop j, fun c hc => w1 c (List.mem_of_mem_drop hc), ?_⟩, (w.take j).drop i, fun c hc => w1 c (List.mem_of_mem_take (List.mem_of_mem_drop hc)), ?_, ?_⟩] at this
    · cases this
    · rw [h5, ← go_app, List.take_append_drop]; exact w3
    · have e : (w.take j).take i = w.take i := by rw [List.take_take, Nat.min_eq_left (by omega)]
      rw [← go_app, ← e, List.take_append_drop]
      exact h5.symm.trans (by rw [e])
    · intro h6
      have := congrArg List.length h6
      simp at this
      omega
  · intro h
    cases hb : bestV k xs bs with
    | none => rfl
    | some b =>
      obtain ⟨hbl, hok, _⟩ := best_end hG hb
      obtain ⟨⟨u, u1, u2⟩, ⟨z, z1, z2⟩, v, v1, v2, v3⟩ := (okB_iff hG hbl).1 hok
      obtain ⟨w', w1, w2, w3, w4⟩ := shorten hG _ (u ++ (pw v bs.length ++ z)) (Nat.le_refl _) (by have := pw_len v3 bs.length; simp only [List.length_append]; omega) (wk_app u1 (wk_app (pw_wk v1 _) z1)) (by rw [go_app, u2, go_app, pw_go v2]; exact z2)
      have := (row_pos hG w'.length 0 (by omega)).2 ⟨w', w1, rfl, w4⟩
      rw [h _ w2 w3] at this
      omega

def fnd (k : Nat) (xs : List Int) (bs : List Bool) : Nat → Nat → Bool
  | 0, _ => false
  | d + 1, i => decide (0 < (rowC k xs bs i).getD 0 0) || fnd k xs bs d (i + 1)
end Go.Proofs.Ythjkodbinkiifaa.Am23
set_option linter.unusedVariables false
open Go Go.Proofs.Ythjkodbinkiifaa.Am
namespace Go.Proofs.Ythjkodbinkiifaa.Am23
end Go.Proofs.Ythjkodbinkiifaa.Am23
set_option linter.unusedVariables false
open Go Go.Proofs.Ythjkodbinkiifaa.Am
namespace Go.Proofs.Ythjkodbinkiifaa.Am23
end Go.Proofs.Ythjkodbinkiifaa.Am23
namespace Go.Proofs.Ythjkodbinkiifaa.Am23
open Go Go.Proofs.Ythjkodbinkiifaa.Am

end Go.Proofs.Ythjkodbinkiifaa.Am23
set_option linter.unusedVariables false
open Go Go.Proofs.Ythjkodbinkiifaa.Am
namespace Go.Proofs.Ythjkodbinkiifaa.Am23
end Go.Proofs.Ythjkodbinkiifaa.Am23
set_option linter.unusedVariables false
open Go Go.Proofs.Ythjkodbinkiifaa.Am
namespace Go.Proofs.Ythjkodbinkiifaa.Am23
end Go.Proofs.Ythjkodbinkiifaa.Am23
namespace Go.Proofs.Ythjkodbinkiifaa.Am23
open Go Go.Proofs.Ythjkodbinkiifaa.Am

def qs (q : List (Nat × List Nat)) : List Value := q.map fun p => .int .i64 (p.1 : Int)
def qw (q : List (Nat × List Nat)) : List Value := q.map fun p => .string (lw p.2)
structure L66 (k : Nat) (xs : List Int) (n : Nat) (H0 H : AHeap) (vN vA x9 x10 x11 x12 : Value) (o9 o10 o11 o12 : Nat) (b : Bf) : Prop where
  hb : H[H0.length]? = some (bx k vN vA)
  r : Rd H 3 1 vN xs.length (il xs)
  lo : Low H0.length vN
  h9 : Own H 9 1 x9 (some o9) n (sl b.ws)
  h10 : Own H 4 1 x10 (some o10) n (bll b.met)
  h11 : Own H 3 1 x11 (some o11) b.q.length (qs b.q)
  h12 : Own H 9 1 x12 (some o12) b.q.length (qw b.q)
  l9 : H0.length < o9
  l10 : H0.length < o10
  l11 : H0.length < o11
  l12 : H0.length < o12
  d1 : o9 ≠ o10
  d2 : o9 ≠ o11
  d3 : o9 ≠ o12
  d4 : o10 ≠ o11
  d5 : o10 ≠ o12
  d6 : o11 ≠ o12

end Go.Proofs.Ythjkodbinkiifaa.Am23
set_option linter.unusedVariables false
open Go Go.Proofs.Ythjkodbinkiifaa.Am
namespace Go.Proofs.Ythjkodbinkiifaa.Am23
end Go.Proofs.Ythjkodbinkiifaa.Am23
set_option linter.unusedVariables false
open Go Go.Proofs.Ythjkodbinkiifaa.Am
namespace Go.Proofs.Ythjkodbinkiifaa.Am23
end Go.Proofs.Ythjkodbinkiifaa.Am23
set_option linter.unusedVariables false
open Go Go.Proofs.Ythjkodbinkiifaa.Am
namespace Go.Proofs.Ythjkodbinkiifaa.Am23
end Go.Proofs.Ythjkodbinkiifaa.Am23
