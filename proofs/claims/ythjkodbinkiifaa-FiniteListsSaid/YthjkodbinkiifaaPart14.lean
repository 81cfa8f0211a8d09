/- A part of the proof of a given statement: P23_24, Sp23_C24, P23_28, P23_52, P23_70. No condition. -/
import Derived.Test.YthjkodbinkiifaaPart13
set_option linter.unusedVariables false
open Go Go.Proofs.Ythjkodbinkiifaa.Am
namespace Go.Proofs.Ythjkodbinkiifaa.Am23
theorem f24_F_0 {x0a : Int} {x0ba : Option Addr} {x0bn x0bc : Nat} {x0ca : Option Addr} {x0cn x0cc : Nat} {x1 : ByteArray} {x2 : Int} {H : AHeap} {prot : Nat} {x12a : Int} {x12ba : Option Addr} {x12bn x12bc : Nat} {x12ca : Option Addr} {x12cn x12cc : Nat} {x13 : Int} (h1 : [Value.int .i64 x0a, Value.slice x0ba x0bn x0bc, Value.slice x0ca x0cn x0cc].all isCell = true) (h2 : getCells (H ++ [vo [Value.int .i64 x0a, Value.slice x0ba x0bn x0bc, Value.slice x0ca x0cn x0cc] 25]) (List.length H) [Value.int .i64 x0a, Value.slice x0ba x0bn x0bc, Value.slice x0ca x0cn x0cc].length 0 3 = some [Value.int .i64 x12a, Value.slice x12ba x12bn x12bc, Value.slice x12ca x12cn x12cc]) (h3 : callInf cfg 41 [Value.agg { toList := [Value.int .i64 x12a, Value.slice x12ba x12bn x12bc, Value.slice x12ca x12cn x12cc] }] (List.length H) (H ++ [vo [Value.int .i64 x0a, Value.slice x0ba x0bn x0bc, Value.slice x0ca x0cn x0cc] 25]) = some (Value.int .i64 x13, H ++ [vo [Value.int .i64 x0a, Value.slice x0ba x0bn x0bc, Value.slice x0ca x0cn x0cc] 25])) (h4 : (x13 != 0) = true) : callInf cfg 24 [.agg #[.int .i64 x0a, .slice x0ba x0bn x0bc, .slice x0ca x0cn x0cc], .string x1, .int .i64 x2] prot H = some (Value.tuple { toList := [Value.slice none 0 0, Value.int .i64 x13] }, H) :=
  fn_of2 a24 [.e, .v (.agg #[.int .i64 x12a, .slice x12ba x12bn x12bc, .slice x12ca x12cn x12cc]), .v (.int .i64 x13), .e, .b true] (ai h1 (ai h2 (ai h3 (ai h4 (Eq.refl ((Value.tuple { toList := [Value.slice none 0 0, Value.int .i64 x13] }, H) : Value × AHeap)))))) (by kernel_rfl) rfl
theorem f24_F_1 {x0a : Int} {x0ba : Option Addr} {x0bn x0bc : Nat} {x0ca : Option Addr} {x0cn x0cc : Nat} {x1 : ByteArray} {x2 : Int} {H : AHeap} {prot : Nat} {x12a : Int} {x12ba : Option Addr} {x12bn x12bc : Nat} {x12ca : Option Addr} {x12cn x12cc : Nat} {x13 : Int} (h1 : [Value.int .i64 x0a, Value.slice x0ba x0bn x0bc, Value.slice x0ca x0cn x0cc].all isCell = true) (h2 : getCells (H ++ [vo [Value.int .i64 x0a, Value.slice x0ba x0bn x0bc, Value.slice x0ca x0cn x0cc] 25]) (List.length H) [Value.int .i64 x0a, Value.slice x0ba x0bn x0bc, Value.slice x0ca x0cn x0cc].length 0 3 = some [Value.int .i64 x12a, Value.slice x12ba x12bn x12bc, Value.slice x12ca x12cn x12cc]) (h3 : callInf cfg 41 [Value.agg { toList := [Value.int .i64 x12a, Value.slice x12ba x12bn x12bc, Value.slice x12ca x12cn x12cc] }] (List.length H) (H ++ [vo [Value.int .i64 x0a, Value.slice x0ba x0bn x0bc, Value.slice x0ca x0cn x0cc] 25]) = some (Value.int .i64 x13, H ++ [vo [Value.int .i64 x0a, Value.slice x0ba x0bn x0bc, Value.slice x0ca x0cn x0cc] 25])) (h4 : (x13 != 0) = false) (h5 : x2 < 0) : callInf cfg 24 [.agg #[.int .i64 x0a, .slice x0ba x0bn x0bc, .slice x0ca x0cn x0cc], .string x1, .int .i64 x2] prot H = some (Value.tuple { toList := [Value.slice none 0 0, Value.int .i64 1] }, H) :=
  fn_of2 a24 [.e, .v (.agg #[.int .i64 x12a, .slice x12ba x12bn x12bc, .slice x12ca x12cn x12cc]), .v (.int .i64 x13), .e, .b false, .e, .b true] (ai h1 (ai h2 (ai h3 (ai h4 (ai (decide_eq_true h5) (Eq.refl ((Value.tuple { toList := [Value.slice none 0 0, Value.int .i64 1] }, H) : Value × AHeap))))))) (by kernel_rfl) rfl
theorem f24_F_2 {x0a : Int} {x0ba : Option Addr} {x0bn x0bc : Nat} {x0ca : Option Addr} {x0cn x0cc : Nat} {x1 : ByteArray} {x2 : Int} {H : AHeap} {prot : Nat} {x12a : Int} {x12ba : Option Addr} {x12bn x12bc : Nat} {x12ca : Option Addr} {x12cn x12cc : Nat} {x13 : Int} (h1 : [Value.int .i64 x0a, Value.slice x0ba x0bn x0bc, Value.slice x0ca x0cn x0cc].all isCell = true) (h2 : getCells (H ++ [vo [Value.int .i64 x0a, Value.slice x0ba x0bn x0bc, Value.slice x0ca x0cn x0cc] 25]) (List.length H) [Value.int .i64 x0a, Value.slice x0ba x0bn x0bc, Value.slice x0ca x0cn x0cc].length 0 3 = some [Value.int .i64 x12a, Value.slice x12ba x12bn x12bc, Value.slice x12ca x12cn x12cc]) (h3 : callInf cfg 41 [Value.agg { toList := [Value.int .i64 x12a, Value.slice x12ba x12bn x12bc, Value.slice x12ca x12cn x12cc] }] (List.length H) (H ++ [vo [Value.int .i64 x0a, Value.slice x0ba x0bn x0bc, Value.slice x0ca x0cn x0cc] 25]) = some (Value.int .i64 x13, H ++ [vo [Value.int .i64 x0a, Value.slice x0ba x0bn x0bc, Value.slice x0ca x0cn x0cc] 25])) (h4 : (x13 != 0) = false) (h5 : ¬(x2 < 0)) (h6 : x2 > 1000) : callInf cfg 24 [.agg #[.int .i64 x0a, .slice x0ba x0bn x0bc, .slice x0ca x0cn x0cc], .string x1, .int .i64 x2] prot H = some (Value.tuple { toList := [Value.slice none 0 0, Value.int .i64 6] }, H) :=
  fn_of2 a24 [.e, .v (.agg #[.int .i64 x12a, .slice x12ba x12bn x12bc, .slice x12ca x12cn x12cc]), .v (.int .i64 x13), .e, .b false, .e, .b false, .e, .b true] (ai h1 (ai h2 (ai h3 (ai h4 (ai (decide_eq_false h5) (ai (decide_eq_true h6) (Eq.refl ((Value.tuple { toList := [Value.slice none 0 0, Value.int .i64 6] }, H) : Value × AHeap)))))))) (by kernel_rfl) rfl
theorem f24_F_3 {x0a : Int} {x0ba : Option Addr} {x0bn x0bc : Nat} {x0ca : Option Addr} {x0cn x0cc : Nat} {x1 : ByteArray} {x2 : Int} {H : AHeap} {prot : Nat} {x12a : Int} {x12ba : Option Addr} {x12bn x12bc : Nat} {x12ca : Option Addr} {x12cn x12cc : Nat} {x13 : Int} {z1 : ByteArray} {z2 : Int} {z3p z3o z3l : Nat} {z6 z7 : Value} {H1 : AHeap} {x44a : Int} {x44ba : Option Addr} {x44bn x44bc : Nat} {x44ca : Option Addr} {x44cn x44cc z10p z10o z10l : Nat} {H2 : AHeap} {x77a : Option Addr} {x77n x77c : Nat} (rv : Value) (rH : AHeap) (h1 : [Value.int .i64 x0a, Value.slice x0ba x0bn x0bc, Value.slice x0ca x0cn x0cc].all isCell = true) (h2 : getCells (H ++ [vo [Value.int .i64 x0a, Value.slice x0ba x0bn x0bc, Value.slice x0ca x0cn x0cc] 25]) (List.length H) [Value.int .i64 x0a, Value.slice x0ba x0bn x0bc, Value.slice x0ca x0cn x0cc].length 0 3 = some [Value.int .i64 x12a, Value.slice x12ba x12bn x12bc, Value.slice x12ca x12cn x12cc]) (h3 : callInf cfg 41 [Value.agg { toList := [Value.int .i64 x12a, Value.slice x12ba x12bn x12bc, Value.slice x12ca x12cn x12cc] }] (List.length H) (H ++ [vo [Value.int .i64 x0a, Value.slice x0ba x0bn x0bc, Value.slice x0ca x0cn x0cc] 25]) = some (Value.int .i64 x13, H ++ [vo [Value.int .i64 x0a, Value.slice x0ba x0bn x0bc, Value.slice x0ca x0cn x0cc] 25])) (h4 : (x13 != 0) = false) (h5 : ¬(x2 < 0)) (h6 : ¬(x2 > 1000)) (h7 : lpInf (lpOf cfg a24 0 prot H) ([Value.string x1, Value.int .i64 x2, Value.pointer (some ⟨List.length H, 0, some [Value.int .i64 x0a, Value.slice x0ba x0bn x0bc, Value.slice x0ca x0cn x0cc].length⟩), Value.int .i64 0], H ++ [vo [Value.int .i64 x0a, Value.slice x0ba x0bn x0bc, Value.slice x0ca x0cn x0cc] 25]) = some (Ex.exit 1, [Value.string z1, Value.int .i64 z2, Value.pointer (some ⟨z3p, z3o, some z3l⟩), z6, z7], H1)) (h8 : getCells H1 z3p z3l z3o 3 = some [Value.int .i64 x44a, Value.slice x44ba x44bn x44bc, Value.slice x44ca x44cn x44cc]) (h9 : [Value.int .i64 x44a, Value.slice x44ba x44bn x44bc, Value.slice x44ca x44cn x44cc, Value.slice none 0 0, Value.string z1, Value.int .i64 z2, Value.slice none 0 0].all isCell = true) (h10 : lpInf (lpOf cfg a24 1 prot H) ([Value.string z1, Value.int .i64 z2, Value.pointer (some ⟨List.length H1, 0, some [Value.int .i64 x44a, Value.slice x44ba x44bn x44bc, Value.slice x44ca x44cn x44cc, Value.slice none 0 0, Value.string z1, Value.int .i64 z2, Value.slice none 0 0].length⟩), Value.int .i64 (↑z1.size : Int)], H1 ++ [vo [Value.int .i64 x44a, Value.slice x44ba x44bn x44bc, Value.slice x44ca x44cn x44cc, Value.slice none 0 0, Value.string z1, Value.int .i64 z2, Value.slice none 0 0] 79]) = some (Ex.exit 3, [Value.pointer (some ⟨z10p, z10o, some z10l⟩)], H2)) (h11 : getCells H2 z10p z10l (z10o + 6) 1 = some [Value.slice x77a x77n x77c]) (h12 : pfin a24 H [Value.slice x77a x77n x77c, Value.int .i64 0] H2 = (rv, rH)) : callInf cfg 24 [.agg #[.int .i64 x0a, .slice x0ba x0bn x0bc, .slice x0ca x0cn x0cc], .string x1, .int .i64 x2] prot H = some (rv, rH) :=
  fn_of2 a24 [.e, .v (.agg #[.int .i64 x12a, .slice x12ba x12bn x12bc, .slice x12ca x12cn x12cc]), .v (.int .i64 x13), .e, .b false, .e, .b false, .e, .b false, .lo (.exit 1, [.string z1, .int .i64 z2, .pointer (some ⟨z3p, z3o, some z3l⟩), z6, z7], H1), .v (.agg #[.int .i64 x44a, .slice x44ba x44bn x44bc, .slice x44ca x44cn x44cc]), .e, .e, .e, .lo (.exit 3, [.pointer (some ⟨z10p, z10o, some z10l⟩)], H2), .v (.slice x77a x77n x77c)] (ai h1 (ai h2 (ai h3 (ai h4 (ai (decide_eq_false h5) (ai (decide_eq_false h6) (ai h7 (ai h8 (ai h9 (ai h10 (ai h11 h12))))))))))) (by kernel_rfl) rfl
theorem f24_F_4 {x0a : Int} {x0ba : Option Addr} {x0bn x0bc : Nat} {x0ca : Option Addr} {x0cn x0cc : Nat} {x1 : ByteArray} {x2 : Int} {H : AHeap} {prot : Nat} {x12a : Int} {x12ba : Option Addr} {x12bn x12bc : Nat} {x12ca : Option Addr} {x12cn x12cc : Nat} {x13 : Int} {z1 z2 z3 : Value} {z6a : Option Addr} {z6n z6c : Nat} {z7 : Int} {H1 : AHeap} (rv : Value) (rH : AHeap) (h1 : [Value.int .i64 x0a, Value.slice x0ba x0bn x0bc, Value.slice x0ca x0cn x0cc].all isCell = true) (h2 : getCells (H ++ [vo [Value.int .i64 x0a, Value.slice x0ba x0bn x0bc, Value.slice x0ca x0cn x0cc] 25]) (List.length H) [Value.int .i64 x0a, Value.slice x0ba x0bn x0bc, Value.slice x0ca x0cn x0cc].length 0 3 = some [Value.int .i64 x12a, Value.slice x12ba x12bn x12bc, Value.slice x12ca x12cn x12cc]) (h3 : callInf cfg 41 [Value.agg { toList := [Value.int .i64 x12a, Value.slice x12ba x12bn x12bc, Value.slice x12ca x12cn x12cc] }] (List.length H) (H ++ [vo [Value.int .i64 x0a, Value.slice x0ba x0bn x0bc, Value.slice x0ca x0cn x0cc] 25]) = some (Value.int .i64 x13, H ++ [vo [Value.int .i64 x0a, Value.slice x0ba x0bn x0bc, Value.slice x0ca x0cn x0cc] 25])) (h4 : (x13 != 0) = false) (h5 : ¬(x2 < 0)) (h6 : ¬(x2 > 1000)) (h7 : lpInf (lpOf cfg a24 0 prot H) ([Value.string x1, Value.int .i64 x2, Value.pointer (some ⟨List.length H, 0, some [Value.int .i64 x0a, Value.slice x0ba x0bn x0bc, Value.slice x0ca x0cn x0cc].length⟩), Value.int .i64 0], H ++ [vo [Value.int .i64 x0a, Value.slice x0ba x0bn x0bc, Value.slice x0ca x0cn x0cc] 25]) = some (Ex.ret, [z1, z2, z3, Value.slice z6a z6n z6c, Value.int .i64 z7], H1)) (h8 : pfin a24 H [Value.slice z6a z6n z6c, Value.int .i64 z7] H1 = (rv, rH)) : callInf cfg 24 [.agg #[.int .i64 x0a, .slice x0ba x0bn x0bc, .slice x0ca x0cn x0cc], .string x1, .int .i64 x2] prot H = some (rv, rH) :=
  fn_of2 a24 [.e, .v (.agg #[.int .i64 x12a, .slice x12ba x12bn x12bc, .slice x12ca x12cn x12cc]), .v (.int .i64 x13), .e, .b false, .e, .b false, .e, .b false, .lo (.ret, [z1, z2, z3, .slice z6a z6n z6c, .int .i64 z7], H1)] (ai h1 (ai h2 (ai h3 (ai h4 (ai (decide_eq_false h5) (ai (decide_eq_false h6) (ai h7 h8))))))) (by kernel_rfl) rfl
theorem f24_L0_0 {x1 : ByteArray} {x2 : Int} {x3p x3o x3l : Nat} {x9 : Int} {H0 : AHeap} {prot : Nat} {H : AHeap} (h1 : x9 < (↑x1.size : Int)) (h2 : 0 ≤ x9) (h3 : (↑(x1.get! x9.toNat).toNat : Int) < 97) : lpOf cfg a24 0 prot H0 ([.string x1, .int .i64 x2, .pointer (some ⟨x3p, x3o, some x3l⟩), .int .i64 x9], H) = some (Sum.inr (Ex.ret, [Value.string x1, Value.int .i64 x2, Value.pointer (some ⟨x3p, x3o, some x3l⟩), Value.slice none 0 0, Value.int .i64 21], H)) :=
  lp_of2 [.e, .e, .b true, .e, .e, .b true, .b true, .b true, .b true, .b true, .b true, .b true, .b true, .b true, .b true] (ai (decide_eq_true h1) (ai h2 (ai h1 (ai (decide_eq_true h3) (ai (decide_eq_true h3) (ai (decide_eq_true h3) (ai (decide_eq_true h3) (ai (decide_eq_true h3) (ai (decide_eq_true h3) (ai (decide_eq_true h3) (ai (decide_eq_true h3) (ai (decide_eq_true h3) (ai (Eq.refl true) (Eq.refl (Sum.inr (Ex.ret, [Value.string x1, Value.int .i64 x2, Value.pointer (some ⟨x3p, x3o, some x3l⟩), Value.slice none 0 0, Value.int .i64 21], H) : LS ⊕ LO))))))))))))))) (by kernel_rfl)
theorem f24_L0_1 {x1 : ByteArray} {x2 : Int} {x3p x3o x3l : Nat} {x9 : Int} {H0 : AHeap} {prot : Nat} {H : AHeap} {x41 : Int} (h1 : x9 < (↑x1.size : Int)) (h2 : 0 ≤ x9) (h3 : ¬((↑(x1.get! x9.toNat).toNat : Int) < 97)) (h4 : Fit .i64 (IntKind.u8.wrap ((↑(x1.get! x9.toNat).toNat : Int) - 97))) (h5 : getCells H x3p x3l (x3o + 0) 1 = some [Value.int .i64 x41]) (h6 : IntKind.u8.wrap ((↑(x1.get! x9.toNat).toNat : Int) - 97) ≥ x41) : lpOf cfg a24 0 prot H0 ([.string x1, .int .i64 x2, .pointer (some ⟨x3p, x3o, some x3l⟩), .int .i64 x9], H) = some (Sum.inr (Ex.ret, [Value.string x1, Value.int .i64 x2, Value.pointer (some ⟨x3p, x3o, some x3l⟩), Value.slice none 0 0, Value.int .i64 21], H)) :=
  lp_of2 [.e, .e, .b true, .e, .e, .b false, .b false, .b false, .e, .b false, .e, .b false, .e, .b false, .b false, .v (.int .i64 x41), .b false, .e, .b false, .b true] (ai (decide_eq_true h1) (ai h2 (ai h1 (ai (decide_eq_false h3) (ai (decide_eq_false h3) (ai (decide_eq_false h3) (ai h2 (ai h1 (ai (decide_eq_false h3) (ai (decide_eq_false h3) (ai h4 (ai (decide_eq_false h3) (ai (decide_eq_false h3) (ai h5 (ai (decide_eq_false h3) (ai (decide_eq_false h3) (ai (decide_eq_true h6) (Eq.refl (Sum.inr (Ex.ret, [Value.string x1, Value.int .i64 x2, Value.pointer (some ⟨x3p, x3o, some x3l⟩), Value.slice none 0 0, Value.int .i64 21], H) : LS ⊕ LO))))))))))))))))))) (by kernel_rfl)
theorem f24_L0_2 {x1 : ByteArray} {x2 : Int} {x3p x3o x3l : Nat} {x9 : Int} {H0 : AHeap} {prot : Nat} {H : AHeap} {x41 : Int} (h1 : x9 < (↑x1.size : Int)) (h2 : 0 ≤ x9) (h3 : ¬((↑(x1.get! x9.toNat).toNat : Int) < 97)) (h4 : Fit .i64 (IntKind.u8.wrap ((↑(x1.get! x9.toNat).toNat : Int) - 97))) (h5 : getCells H x3p x3l (x3o + 0) 1 = some [Value.int .i64 x41]) (h6 : ¬(IntKind.u8.wrap ((↑(x1.get! x9.toNat).toNat : Int) - 97) ≥ x41)) (h7 : Fit .i64 (x9 + 1)) : lpOf cfg a24 0 prot H0 ([.string x1, .int .i64 x2, .pointer (some ⟨x3p, x3o, some x3l⟩), .int .i64 x9], H) = some (Sum.inl ([Value.string x1, Value.int .i64 x2, Value.pointer (some ⟨x3p, x3o, some x3l⟩), Value.int .i64 (x9 + 1)], H)) :=
  lp_of2 [.e, .e, .b true, .e, .e, .b false, .b false, .b false, .e, .b false, .e, .b false, .e, .b false, .b false, .v (.int .i64 x41), .b false, .e, .b false, .b false, .e] (ai (decide_eq_true h1) (ai h2 (ai h1 (ai (decide_eq_false h3) (ai (decide_eq_false h3) (ai (decide_eq_false h3) (ai h2 (ai h1 (ai (decide_eq_false h3) (ai (decide_eq_false h3) (ai h4 (ai (decide_eq_false h3) (ai (decide_eq_false h3) (ai h5 (ai (decide_eq_false h3) (ai (decide_eq_false h3) (ai (decide_eq_false h6) (ai h7 (Eq.refl (Sum.inl ([Value.string x1, Value.int .i64 x2, Value.pointer (some ⟨x3p, x3o, some x3l⟩), Value.int .i64 (x9 + 1)], H) : LS ⊕ LO)))))))))))))))))))) (by kernel_rfl)
theorem f24_L0_3 {x1 : ByteArray} {x2 : Int} {x3p x3o x3l : Nat} {x9 : Int} {H0 : AHeap} {prot : Nat} {H : AHeap} (h1 : ¬(x9 < (↑x1.size : Int))) : lpOf cfg a24 0 prot H0 ([.string x1, .int .i64 x2, .pointer (some ⟨x3p, x3o, some x3l⟩), .int .i64 x9], H) = some (Sum.inr (Ex.exit 1, [Value.string x1, Value.int .i64 x2, Value.pointer (some ⟨x3p, x3o, some x3l⟩), Value.tuple { toList := [] }, Value.tuple { toList := [] }], H)) :=
  lp_of2 [.e, .e, .b false] (ai (decide_eq_false h1) (Eq.refl (Sum.inr (Ex.exit 1, [Value.string x1, Value.int .i64 x2, Value.pointer (some ⟨x3p, x3o, some x3l⟩), Value.tuple { toList := [] }, Value.tuple { toList := [] }], H) : LS ⊕ LO))) (by kernel_rfl)
theorem f24_L1_0 {x1 : ByteArray} {x2 : Int} {x10p x10o x10l : Nat} {x11 : Int} {H0 : AHeap} {prot : Nat} {H : AHeap} {x57a : Option Addr} {x57n x57c : Nat} {H2 H3 : AHeap} (h1 : x11 ≤ 4096) (h2 : getCells H x10p x10l (x10o + 6) 1 = some [Value.slice x57a x57n x57c]) (h3 : (↑x57n : Int) < x2) (h4 : callInf cfg 48 [Value.pointer (some ⟨x10p, x10o, some x10l⟩), Value.int .i64 x11] (List.length H0) H = some (Value.tuple { toList := [] }, H2)) (h5 : callInf cfg 49 [Value.pointer (some ⟨x10p, x10o, some x10l⟩), Value.int .i64 0, Value.string { data := { toList := [] } }, Value.int .i64 x11, Value.bool (x11 == (↑x1.size : Int))] (List.length H0) H2 = some (Value.tuple { toList := [] }, H3)) (h6 : Fit .i64 (x11 + 1)) : lpOf cfg a24 1 prot H0 ([.string x1, .int .i64 x2, .pointer (some ⟨x10p, x10o, some x10l⟩), .int .i64 x11], H) = some (Sum.inl ([Value.string x1, Value.int .i64 x2, Value.pointer (some ⟨x10p, x10o, some x10l⟩), Value.int .i64 (x11 + 1)], H3)) :=
  lp_of2 [.e, .b true, .b true, .b true, .b true, .v (.slice x57a x57n x57c), .b true, .e, .b true, .b true, .e, .b true, .b true, .r (.tuple #[]) H2, .e, .e, .r (.tuple #[]) H3, .e] (ai (decide_eq_true h1) (ai (decide_eq_true h1) (ai (decide_eq_true h1) (ai (decide_eq_true h1) (ai h2 (ai (decide_eq_true h1) (ai (decide_eq_true h1) (ai (decide_eq_true h1) (ai (decide_eq_true h1) (ai (decide_eq_true h3) (ai h4 (ai h5 (ai h6 (Eq.refl (Sum.inl ([Value.string x1, Value.int .i64 x2, Value.pointer (some ⟨x10p, x10o, some x10l⟩), Value.int .i64 (x11 + 1)], H3) : LS ⊕ LO))))))))))))))) (by kernel_rfl)
theorem f24_L1_1 {x1 : ByteArray} {x2 : Int} {x10p x10o x10l : Nat} {x11 : Int} {H0 : AHeap} {prot : Nat} {H : AHeap} {x57a : Option Addr} {x57n x57c : Nat} (h1 : x11 ≤ 4096) (h2 : getCells H x10p x10l (x10o + 6) 1 = some [Value.slice x57a x57n x57c]) (h3 : ¬((↑x57n : Int) < x2)) : lpOf cfg a24 1 prot H0 ([.string x1, .int .i64 x2, .pointer (some ⟨x10p, x10o, some x10l⟩), .int .i64 x11], H) = some (Sum.inr (Ex.exit 3, [Value.pointer (some ⟨x10p, x10o, some x10l⟩)], H)) :=
  lp_of2 [.e, .b true, .b true, .b true, .b true, .v (.slice x57a x57n x57c), .b true, .e, .b true, .b true, .e, .b true, .b false] (ai (decide_eq_true h1) (ai (decide_eq_true h1) (ai (decide_eq_true h1) (ai (decide_eq_true h1) (ai h2 (ai (decide_eq_true h1) (ai (decide_eq_true h1) (ai (decide_eq_true h1) (ai (decide_eq_true h1) (ai (decide_eq_false h3) (Eq.refl (Sum.inr (Ex.exit 3, [Value.pointer (some ⟨x10p, x10o, some x10l⟩)], H) : LS ⊕ LO)))))))))))) (by kernel_rfl)
theorem f24_L1_2 {x1 : ByteArray} {x2 : Int} {x10p x10o x10l : Nat} {x11 : Int} {H0 : AHeap} {prot : Nat} {H : AHeap} (h1 : ¬(x11 ≤ 4096)) : lpOf cfg a24 1 prot H0 ([.string x1, .int .i64 x2, .pointer (some ⟨x10p, x10o, some x10l⟩), .int .i64 x11], H) = some (Sum.inr (Ex.exit 3, [Value.pointer (some ⟨x10p, x10o, some x10l⟩)], H)) :=
  lp_of2 [.e, .b false, .b false, .b false, .b false, .b false, .b false, .b false, .b false, .b false] (ai (decide_eq_false h1) (ai (decide_eq_false h1) (ai (decide_eq_false h1) (ai (decide_eq_false h1) (ai (decide_eq_false h1) (ai (decide_eq_false h1) (ai (decide_eq_false h1) (ai (decide_eq_false h1) (ai (Eq.refl false) (Eq.refl (Sum.inr (Ex.exit 3, [Value.pointer (some ⟨x10p, x10o, some x10l⟩)], H) : LS ⊕ LO))))))))))) (by kernel_rfl)
end Go.Proofs.Ythjkodbinkiifaa.Am23
namespace Go.Proofs.Ythjkodbinkiifaa.Am23
open Go Go.Proofs.Ythjkodbinkiifaa.Am

theorem u8_sub {b : Nat} (h1 : 97 ≤ b) (h2 : b < 256) : IntKind.u8.wrap ((b : Int) - 97) = ((b - 97 : Nat) : Int) := by
  rw [show (b : Int) - 97 = ((b - 97 : Nat) : Int) by omega]
  exact u8_small (by omega)
theorem loop24a {k : Nat} (hk8 : k ≤ 8) {w : ByteArray} (hw : w.size < 140737488355328) {most : Int} {H0 H : AHeap} {prot : Nat} {vN vA : Value} (hb : H[H0.length]? = some (bx k vN vA)) : ∀ (d i : Nat), i + d = w.size →
    lpInf (lpOf cfg a24 0 prot H0) ([.string w, .int .i64 most, .pointer (some ⟨H0.length, 0, some 3⟩), .int .i64 i], H) =
      some (if okFrom k w d i then (.exit 1, [.string w, .int .i64 most, .pointer (some ⟨H0.length, 0, some 3⟩), .tuple #[], .tuple #[]], H) else (.ret, [.string w, .int .i64 most, .pointer (some ⟨H0.length, 0, some 3⟩), .slice none 0 0, .int .i64 21], H))
  | 0, i, hi => by rw [okFrom, if_pos rfl]; exact lp_last (f24_L0_3 (by omega))
  | d + 1, i, hi => by
    obtain ⟨g0, _, _, _⟩ := fld3 hb
    have hb256 : (w.get! i).toNat < 256 := (w.get! i).toNat_lt
    rw [okFrom]
    by_cases h1 : (w.get! i).toNat < 97
    · rw [decide_eq_false (by omega), Bool.false_and, if_neg (by simp)]
      exact lp_last (f24_L0_0 (by omega) (by omega) (by rw [Int.toNat_natCast]; omega))
    · have hsub := u8_sub (b := (w.get! i).toNat) (by omega) hb256
      have hsub' : IntKind.u8.wrap ((((w.get! ((i : Nat) : Int).toNat).toNat : Nat) : Int) - 97) = (((w.get! i).toNat - 97 : Nat) : Int) := by rw [Int.toNat_natCast]; exact hsub
      have f1 : Fit .i64 (IntKind.u8.wrap ((((w.get! ((i : Nat) : Int).toNat).toNat : Nat) : Int) - 97)) := by rw [hsub']; exact fit64 (by omega) (by omega)
      by_cases h2 : (w.get! i).toNat < 97 + k
      · rw [decide_eq_true (by omega), Bool.true_and]
        exact lp_next (f24_L0_2 (by omega) (by omega) (by rw [Int.toNat_natCast]; omega) f1 g0 (by rw [hsub']; omega) (fit64 (by omega) (by omega))) (loop24a hk8 hw hb d (i + 1) (by omega))
      · rw [decide_eq_false (by omega), Bool.false_and, if_neg (by simp)]
        exact lp_last (f24_L0_1 (by omega) (by omega) (by rw [Int.toNat_natCast]; omega) f1 g0 (by rw [hsub']; omega))

theorem allW_loT (k : Nat) (stp : Nat → Nat → Nat) (acc : Nat → Bool) (low : List Nat) (n s : Nat) : allW k stp acc n s (loT low (decide (n = low.length)) []) = allW k stp acc n s (lowO low n) := by
  unfold loT lowO
  by_cases h : n = low.length
  · rw [decide_eq_true h, if_pos rfl]
    by_cases h2 : low = []
    · rw [if_neg (fun h3 => h3.2 h2)]
      have hn : n = 0 := by rw [h, h2]; rfl
      rw [hn, allW, allW]
    · rw [if_pos ⟨h, h2⟩, List.length_nil, List.drop_zero]
  · rw [decide_eq_false h, if_neg (by simp), if_neg (fun h3 => h h3.1)]

theorem loop24b {k q most : Nat} {xs : List Int} {bs : List Bool} (hG : Good k xs bs) {low : List Nat} (hlk : ∀ c ∈ low, c < k) (hmo : most ≤ 1000) {H0 : AHeap} {prot : Nat} (hp : H0.length ≤ q) {vN vA : Value} :
    ∀ (d n : Nat) (H : AHeap) (vc vo : Value) (oc oo : Option Nat) (C : List Value) (out : List (List Nat)), n + d = 4097 ∨ (d = 0 ∧ 4097 ≤ n) → LL k xs bs low most q H vN vA vc vo oc oo C out → out.length ≤ most →
    ∃ vc' vo' oc' oo' C' H', lpInf (lpOf cfg a24 1 prot H0) ([.string (lw low), .int .i64 most, .pointer (some ⟨q, 0, some 7⟩), .int .i64 n], H) = some (.exit 3, [.pointer (some ⟨q, 0, some 7⟩)], H') ∧
      LL k xs bs low most q H' vN vA vc' vo' oc' oo' C' (runW k (tgt k xs) (accB bs) low most d n out) ∧ H.length ≤ H'.length
  | 0, n, H, vc, vo, oc, oo, C, out, hn, hL, hout => ⟨vc, vo, oc, oo, C, H, lp_last (f24_L1_2 (by omega)), hL, Nat.le_refl _⟩
  | d + 1, n, H, vc, vo, oc, oo, C, out, hn, hL, hout => by
    have hn1 := hG.n1
    have g6 := fldN hL.hb rfl 6 rfl
    have hvo := hL.out.len
    rw [runW]
    by_cases h : out.length < most
    · rw [if_pos h]
      obtain ⟨vc2, oc2, C2, H2, r1, r2, r3, r4, r5⟩ := c48 hG (nn := n) (by omega) hp hL
      obtain ⟨vo3, oo3, H3, s1, s2, s3⟩ := c49 hG hlk hp hmo n r3 0 [] (decide (n = low.length)) H2 vo oo out r2 (by omega) (by simp) (by simp; omega) (fun h => by simpa using (of_decide_eq_true h).symm) hout
      have em : ∀ l : List (List Nat), l.map (([] : List Nat) ++ ·) = l := fun l => by simp
      rw [em, allW_loT] at s2
      obtain ⟨vc', vo', oc', oo', C', H', z1, z2, z3⟩ := loop24b hG hlk hmo hp (prot := prot) d (n + 1) H3 vc2 vo3 oc2 oo3 C2 _ (by omega) s2 (by rw [List.length_take]; omega)
      refine ⟨vc', vo', oc', oo', C', H', ?_, z2, by omega⟩
      obtain ⟨ao, co, rfl⟩ := hvo
      have hb : ((n : Int) == ((lw low).size : Int)) = decide (n = low.length) := by
        rw [lw_size]
        by_cases he : n = low.length
        · rw [decide_eq_true he, beq_iff_eq]; omega
        · rw [decide_eq_false he, beq_eq_false_iff_ne]; omega
      rw [← hb] at s1
      exact lp_next (f24_L1_0 (by omega) g6 (by omega) r1 s1 (fit64 (by omega) (by omega))) z1
    · rw [if_neg h]
      obtain ⟨ao, co, rfl⟩ := hvo
      exact ⟨vc, _, oc, oo, C, H, lp_last (f24_L1_1 (by omega) g6 (by omega)), hL, Nat.le_refl _⟩

theorem c24 {k : Int} {xs : List Int} {bs : List Bool} {vN vA : Value} (w : ByteArray) (hw : w.size < 140737488355328) (most : Int) (prot : Nat) (H : AHeap) (hA : IsA H xs bs vN vA) :
    ∃ X oX H', callInf cfg 24 [av k vN vA, .string w, .int .i64 most] prot H = some (.tuple #[X, .int .i64 (wordsV k xs bs w most).2], H') ∧ Own H' 9 1 X oX (wordsV k xs bs w most).1.length (sl (wordsV k xs bs w most).1) ∧ Stay none H H' ∧ (∀ id, oX = some id → H.length ≤ id) := by
  have lN := hA.n.low
  have lA := hA.a.low
  obtain ⟨aN, cN, rfl⟩ := hA.n.len
  obtain ⟨aA, cA, rfl⟩ := hA.a.len
  obtain ⟨HX, hHX⟩ : ∃ HX, HX = H ++ [bx k (.slice aN xs.length cN) (.slice aA bs.length cA)] := ⟨_, rfl⟩
  have lX : HX.length = H.length + 1 := by rw [hHX]; simp
  have sX : Stay none H HX := by rw [hHX]; exact Stay.app none H _
  have hgX : HX[H.length]? = some (bx k (.slice aN xs.length cN) (.slice aA bs.length cA)) := by rw [hHX]; exact append_get.1
  obtain ⟨g0, _, _, g3⟩ := fld3 hgX
  have hAX := hA.stay sX
  have h41 := c41 (k := k) H.length HX hAX
  have nil : ∀ e : Int, callInf cfg 24 [av k (.slice aN xs.length cN) (.slice aA bs.length cA), .string w, .int .i64 most] prot H = some (.tuple #[.slice none 0 0, .int .i64 e], H) → wordsV k xs bs w most = ([], e) →
      ∃ X oX H', callInf cfg 24 [av k (.slice aN xs.length cN) (.slice aA bs.length cA), .string w, .int .i64 most] prot H = some (.tuple #[X, .int .i64 (wordsV k xs bs w most).2], H') ∧ Own H' 9 1 X oX (wordsV k xs bs w most).1.length (sl (wordsV k xs bs w most).1) ∧ Stay none H H' ∧ (∀ id, oX = some id → H.length ≤ id) := fun e h1 h2 => by
    rw [h2]
    exact ⟨_, none, H, h1, own_nil, Stay.refl _ _, fun id h => by cases h⟩
  by_cases c1 : chkG k xs bs = 0
  · have e1 : (chkG k xs bs != 0) = false := by simp [c1]
    by_cases c2 : most < 0
    · exact nil 1 (by subst hHX; exact f24_F_1 all3 g3 h41 e1 c2) (by unfold wordsV; rw [if_neg (by simp [c1]), if_pos c2])
    by_cases c3 : most > 1000
    · exact nil 6 (by subst hHX; exact f24_F_2 all3 g3 h41 e1 c2 c3) (by unfold wordsV; rw [if_neg (by simp [c1]), if_neg c2, if_pos c3])
    obtain ⟨k, rfl, hG⟩ := good_of c1
    obtain ⟨most, rfl⟩ : ∃ m : Nat, most = m := ⟨most.toNat, by omega⟩
    have hchk : chkW (k : Int) w = if okW k w then 0 else 21 := by
      unfold chkW
      rw [if_neg (by have := hG.k1; have := hG.k8; omega), Int.toNat_natCast]
    have hloop := loop24a (k := k) hG.k8 hw (most := (most : Int)) (prot := prot) (H0 := H) hgX w.size 0 (by omega)
    rw [show okFrom k w w.size 0 = okW k w from rfl] at hloop
    cases hok : okW k w with
    | false =>
      rw [hok, if_neg (by simp)] at hloop
      rw [hok, if_neg (by simp)] at hchk
      have hgc : pfin a24 H [.slice none 0 0, .int .i64 21] HX = (.tuple #[.slice none 0 0, .int .i64 21], H) := by
        rw [pfin_eq, if_neg (by simp [a24])]
        exact gc_plain rfl
      exact nil 21 (by subst hHX; exact f24_F_4 _ _ all3 g3 h41 e1 c2 c3 hloop hgc) (by unfold wordsV; rw [if_neg (by simp [c1]), if_neg c2, if_neg c3, if_pos (by rw [hchk]; decide)])
    | true =>
      rw [hok, if_pos rfl] at hloop
      rw [hok, if_pos rfl] at hchk
      obtain ⟨hlw, hlk⟩ := letO_ok hok
      have hV : wordsV (k : Int) xs bs w (most : Int) = (runW k (tgt k xs) (accB bs) (letO w) most (4097 - (letO w).length) (letO w).length [], 0) := by
        rw [runW_eq _ _ _ _ _ _ _ _ (Nat.zero_le _), List.nil_append]
        unfold wordsV
        rw [if_neg (by simp [c1]), if_neg c2, if_neg c3, if_neg (by simp [hchk])]
        simp only [Int.toNat_natCast]
        split
        · rw [show 4097 - (letO w).length = 0 by rw [letO_len]; omega, tailW, List.take_nil]
        · rfl
      obtain ⟨HL, hHL⟩ : ∃ HL, HL = HX ++ [lst k (.slice aN xs.length cN) (.slice aA bs.length cA) (.slice none 0 0) (letO w) most (.slice none 0 0)] := ⟨_, rfl⟩
      have sL : Stay none HX HL := by rw [hHL]; exact Stay.app none HX _
      have lL : HL.length = H.length + 2 := by rw [hHL]; simp; omega
      have rowL : ∀ v, Low H.length v → RowA HX.length none none v := fun v hv id off L n c e => ⟨by have := hv id off L n c e; omega, by simp, by simp⟩
      have hLL : LL k xs bs (letO w) most HX.length HL (.slice aN xs.length cN) (.slice aA bs.length cA) (.slice none 0 0) (.slice none 0 0) none none [] [] :=
        ⟨by rw [hHL]; exact append_get.1, (hAX.stay sL).n, (hAX.stay sL).a, rowL _ lN, rowL _ lA, own_nil, fun j hj => (by cases hj), own_nil, fun id h => (by cases h), fun id h => (by cases h), fun id h => (by cases h)⟩
      obtain ⟨vc', vo', oc', oo', C', H', z1, z2, z3⟩ := loop24b hG hlk (show most ≤ 1000 by omega) (prot := prot) (H0 := H) (show H.length ≤ HX.length by omega) (4097 - (letO w).length) (letO w).length HL _ _ none none [] [] (by omega) hLL (Nat.zero_le _)
      obtain ⟨x', o', H4, v1, v2, v3, v4, v5⟩ := gc_row (H := H) (ps := [.int .i64 0]) z2.out (fun id h => by have := z2.lo id h; omega) (sl_cell _) rfl
      have g6 := fldN z2.hb rfl 6 rfl
      rw [hV]
      obtain ⟨ao, co, hvo⟩ := z2.out.len
      refine ⟨x', o', H4, ?_, v2, v3, v4⟩
      rw [hvo] at g6 v1
      rw [letO_len] at z1
      have hlw' : (lw (letO w)) = w := hlw
      rw [hHL] at z1
      simp only [lst] at z1
      rw [hlw'] at z1
      subst hHX
      exact f24_F_3 _ _ all3 g3 h41 e1 c2 c3 hloop g3 rfl z1 g6 (by rw [pfin_eq, if_neg (by simp [a24])]; exact v1)
  · exact nil (chkG k xs bs) (by subst hHX; exact f24_F_0 all3 g3 h41 (by simpa using c1)) (by unfold wordsV; rw [if_pos c1])
end Go.Proofs.Ythjkodbinkiifaa.Am23
set_option linter.unusedVariables false
open Go Go.Proofs.Ythjkodbinkiifaa.Am
namespace Go.Proofs.Ythjkodbinkiifaa.Am23
end Go.Proofs.Ythjkodbinkiifaa.Am23
set_option linter.unusedVariables false
open Go Go.Proofs.Ythjkodbinkiifaa.Am
namespace Go.Proofs.Ythjkodbinkiifaa.Am23
end Go.Proofs.Ythjkodbinkiifaa.Am23
set_option linter.unusedVariables false
open Go Go.Proofs.Ythjkodbinkiifaa.Am
namespace Go.Proofs.Ythjkodbinkiifaa.Am23
end Go.Proofs.Ythjkodbinkiifaa.Am23
