/- A part of the proof of a given statement: P11_21, S11_Pa, S11_Pb, P11_17, S11_W, P11_4, P11_13, Law11_4, P11_5, Law11_5. No condition. -/
import Derived.Test.YtkemihfaohkoeaaPart12
set_option linter.unusedVariables false
open Go Go.Proofs.Ytkemihfaohkoeaa.Am
namespace Go.Proofs.Ytkemihfaohkoeaa.Am11
theorem f21_F_5 {x0a : Option Addr} {x0n x0c : Nat} {x1 x2 : Int} {H : AHeap} {prot : Nat} {x22 : Int} {x49p x49o x49l : Nat} {H1 : AHeap} {x51a : Option Addr} {x51n x51c : Nat} {H2 : AHeap} {z0a : Option Addr} {z0n z0c : Nat} {z1 z2 : Int} {z10a : Option Addr} {z10n z10c : Nat} {H3 : AHeap} {x101p x101o x101l : Nat} {x102 : Int} (h1 : callInf cfg 25 [Value.slice x0a x0n x0c] (List.length H) H = some (Value.int .i64 x22, H)) (h2 : (x22 != 0) = false) (h3 : ¬(x1 < 0)) (h4 : ¬(x1 ≥ (↑x0n : Int))) (h5 : ¬(x2 < 0)) (h6 : ¬(x2 ≥ (↑x0n : Int))) (h7 : 0 ≤ (↑x0n : Int)) (h8 : (↑x0n : Int) = (↑x0n : Int)) (h9 : (↑x0n : Int) ≤ 9223372036854775807) (h10 : (↑8 : Int) * (↑x0n : Int) ≤ 2 ^ 48) (h11 : aindexAddr cfg.P 34 (Value.slice (some ⟨List.length H, 0, some ((↑x0n : Int).toNat * 1)⟩) (↑x0n : Int).toNat (↑x0n : Int).toNat) (Value.int .i64 x2) = some (Value.pointer (some ⟨x49p, x49o, some x49l⟩))) (h12 : [Value.int .i64 1].length = 1) (h13 : setCells (H ++ [AObj.cells (repCells [Value.int .i64 0] (↑x0n : Int).toNat) 3 (repCells [Value.int .i64 0] (↑x0n : Int).toNat).length OMode.row]) (List.length H) x49p x49l x49o [Value.int .i64 1] = some H1) (h14 : callInf cfg 33 [Value.slice x0a x0n x0c] (List.length H) H1 = some (Value.slice x51a x51n x51c, H2)) (h15 : lpInf (lpOf cfg a21 0 prot H) ([Value.slice x0a x0n x0c, Value.int .i64 x1, Value.int .i64 x2, Value.slice (some ⟨List.length H, 0, some ((↑x0n : Int).toNat * 1)⟩) (↑x0n : Int).toNat (↑x0n : Int).toNat, Value.slice x51a x51n x51c, Value.slice (some ⟨List.length H2, 0, some (1 * 1)⟩) 1 1, Value.int .i64 0], H2 ++ [wo [Value.int .i64 x2] 3]) = some (Ex.exit 0, [Value.slice z0a z0n z0c, Value.int .i64 z1, Value.int .i64 z2, Value.slice z10a z10n z10c], H3)) (h16 : aindexAddr cfg.P 34 (Value.slice z10a z10n z10c) (Value.int .i64 z1) = some (Value.pointer (some ⟨x101p, x101o, some x101l⟩))) (h17 : getCells H3 x101p x101l x101o 1 = some [Value.int .i64 x102]) (h18 : (x102 == 0) = true) : callInf cfg 21 [.slice x0a x0n x0c, .int .i64 x1, .int .i64 x2] prot H = some (Value.tuple { toList := [Value.slice none 0 0, Value.bool false, Value.int .i64 0] }, H) :=
  fn_of2 a21 [.v (.int .i64 x22), .e, .b false, .e, .b false, .b false, .b false, .e, .b false, .e, .b false, .b false, .b false, .e, .b false, .b false, .b false, .b false, .e, .b false, .e, .b false, .b false, .e, .e, .v (.pointer (some ⟨x49p, x49o, some x49l⟩)), .h H1, .r (.slice x51a x51n x51c) H2, .e, .lo (.exit 0, [.slice z0a z0n z0c, .int .i64 z1, .int .i64 z2, .slice z10a z10n z10c], H3), .v (.pointer (some ⟨x101p, x101o, some x101l⟩)), .v (.int .i64 x102), .e, .b true] (ai h1 (ai h2 (ai (decide_eq_false h3) (ai (decide_eq_false h3) (ai (decide_eq_false h3) (ai (decide_eq_false h3) (ai (decide_eq_false h3) (ai (decide_eq_false h4) (ai (decide_eq_false h4) (ai (decide_eq_false h4) (ai (decide_eq_false h5) (ai (decide_eq_false h5) (ai (decide_eq_false h5) (ai (decide_eq_false h5) (ai (decide_eq_false h5) (ai (decide_eq_false h6) (ai h7 (ai h8 (ai h9 (ai h10 (ai h11 (ai h12 (ai h13 (ai h14 (ai h15 (ai h16 (ai h17 (ai h18 (Eq.refl ((Value.tuple { toList := [Value.slice none 0 0, Value.bool false, Value.int .i64 0] }, H) : Value × AHeap)))))))))))))))))))))))))))))) (by kernel_rfl) rfl
theorem f21_F_6 {x0a : Option Addr} {x0n x0c : Nat} {x1 x2 : Int} {H : AHeap} {prot : Nat} {x22 : Int} {x49p x49o x49l : Nat} {H1 : AHeap} {x51a : Option Addr} {x51n x51c : Nat} {H2 : AHeap} {z0a : Option Addr} {z0n z0c : Nat} {z1 z2 : Int} {z10a : Option Addr} {z10n z10c : Nat} {H3 : AHeap} {x101p x101o x101l : Nat} {x102 : Int} {z16a : Option Addr} {z16n z16c : Nat} {H4 : AHeap} (rv : Value) (rH : AHeap) (h1 : callInf cfg 25 [Value.slice x0a x0n x0c] (List.length H) H = some (Value.int .i64 x22, H)) (h2 : (x22 != 0) = false) (h3 : ¬(x1 < 0)) (h4 : ¬(x1 ≥ (↑x0n : Int))) (h5 : ¬(x2 < 0)) (h6 : ¬(x2 ≥ (↑x0n : Int))) (h7 : 0 ≤ (↑x0n : Int)) (h8 : (↑x0n : Int) = (↑x0n : Int)) (h9 : (↑x0n : Int) ≤ 9223372036854775807) (h10 : (↑8 : Int) * (↑x0n : Int) ≤ 2 ^ 48) (h11 : aindexAddr cfg.P 34 (Value.slice (some ⟨List.length H, 0, some ((↑x0n : Int).toNat * 1)⟩) (↑x0n : Int).toNat (↑x0n : Int).toNat) (Value.int .i64 x2) = some (Value.pointer (some ⟨x49p, x49o, some x49l⟩))) (h12 : [Value.int .i64 1].length = 1) (h13 : setCells (H ++ [AObj.cells (repCells [Value.int .i64 0] (↑x0n : Int).toNat) 3 (repCells [Value.int .i64 0] (↑x0n : Int).toNat).length OMode.row]) (List.length H) x49p x49l x49o [Value.int .i64 1] = some H1) (h14 : callInf cfg 33 [Value.slice x0a x0n x0c] (List.length H) H1 = some (Value.slice x51a x51n x51c, H2)) (h15 : lpInf (lpOf cfg a21 0 prot H) ([Value.slice x0a x0n x0c, Value.int .i64 x1, Value.int .i64 x2, Value.slice (some ⟨List.length H, 0, some ((↑x0n : Int).toNat * 1)⟩) (↑x0n : Int).toNat (↑x0n : Int).toNat, Value.slice x51a x51n x51c, Value.slice (some ⟨List.length H2, 0, some (1 * 1)⟩) 1 1, Value.int .i64 0], H2 ++ [wo [Value.int .i64 x2] 3]) = some (Ex.exit 0, [Value.slice z0a z0n z0c, Value.int .i64 z1, Value.int .i64 z2, Value.slice z10a z10n z10c], H3)) (h16 : aindexAddr cfg.P 34 (Value.slice z10a z10n z10c) (Value.int .i64 z1) = some (Value.pointer (some ⟨x101p, x101o, some x101l⟩))) (h17 : getCells H3 x101p x101l x101o 1 = some [Value.int .i64 x102]) (h18 : (x102 == 0) = false) (h19 : lpInf (lpOf cfg a21 2 prot H) ([Value.slice z0a z0n z0c, Value.int .i64 z2, Value.slice z10a z10n z10c, Value.slice (some ⟨List.length H3, 0, some (1 * 1)⟩) 1 1, Value.int .i64 z1], H3 ++ [wo [Value.int .i64 z1] 3]) = some (Ex.exit 4, [Value.slice z16a z16n z16c], H4)) (h20 : pfin a21 H [Value.slice z16a z16n z16c, Value.bool true, Value.int .i64 0] H4 = (rv, rH)) : callInf cfg 21 [.slice x0a x0n x0c, .int .i64 x1, .int .i64 x2] prot H = some (rv, rH) :=
  fn_of2 a21 [.v (.int .i64 x22), .e, .b false, .e, .b false, .b false, .b false, .e, .b false, .e, .b false, .b false, .b false, .e, .b false, .b false, .b false, .b false, .e, .b false, .e, .b false, .b false, .e, .e, .v (.pointer (some ⟨x49p, x49o, some x49l⟩)), .h H1, .r (.slice x51a x51n x51c) H2, .e, .lo (.exit 0, [.slice z0a z0n z0c, .int .i64 z1, .int .i64 z2, .slice z10a z10n z10c], H3), .v (.pointer (some ⟨x101p, x101o, some x101l⟩)), .v (.int .i64 x102), .e, .b false, .e, .lo (.exit 4, [.slice z16a z16n z16c], H4)] (ai h1 (ai h2 (ai (decide_eq_false h3) (ai (decide_eq_false h3) (ai (decide_eq_false h3) (ai (decide_eq_false h3) (ai (decide_eq_false h3) (ai (decide_eq_false h4) (ai (decide_eq_false h4) (ai (decide_eq_false h4) (ai (decide_eq_false h5) (ai (decide_eq_false h5) (ai (decide_eq_false h5) (ai (decide_eq_false h5) (ai (decide_eq_false h5) (ai (decide_eq_false h6) (ai h7 (ai h8 (ai h9 (ai h10 (ai h11 (ai h12 (ai h13 (ai h14 (ai h15 (ai h16 (ai h17 (ai h18 (ai h19 h20))))))))))))))))))))))))))))) (by kernel_rfl) rfl
theorem f21_L0_0 {x0a : Option Addr} {x0n x0c : Nat} {x1 x2 : Int} {x10a : Option Addr} {x10n x10c : Nat} {x11a : Option Addr} {x11n x11c : Nat} {x12a : Option Addr} {x12n x12c : Nat} {x13 : Int} {H0 : AHeap} {prot : Nat} {H : AHeap} {x63p x63o x63l : Nat} {x64 : Int} {x65p x65o x65l : Nat} {x66a : Option Addr} {x66n x66c : Nat} {z0a : Option Addr} {z0n z0c : Nat} {z1 z2 : Int} {z10a : Option Addr} {z10n z10c : Nat} {z11a : Option Addr} {z11n z11c : Nat} {z12a : Option Addr} {z12n z12c : Nat} {z13 : Int} {H2 : AHeap} {x95p x95o x95l : Nat} {x96 : Int} (h1 : x13 < (↑x12n : Int)) (h2 : aindexAddr cfg.P 34 (Value.slice x12a x12n x12c) (Value.int .i64 x13) = some (Value.pointer (some ⟨x63p, x63o, some x63l⟩))) (h3 : getCells H x63p x63l x63o 1 = some [Value.int .i64 x64]) (h4 : aindexAddr cfg.P 22 (Value.slice x11a x11n x11c) (Value.int .i64 x64) = some (Value.pointer (some ⟨x65p, x65o, some x65l⟩))) (h5 : getCells H x65p x65l x65o 1 = some [Value.slice x66a x66n x66c]) (h6 : lpInf (lpOf cfg a21 1 prot H0) ([Value.slice x0a x0n x0c, Value.int .i64 x1, Value.int .i64 x2, Value.slice x10a x10n x10c, Value.slice x11a x11n x11c, Value.slice x12a x12n x12c, Value.int .i64 x13, Value.slice x66a x66n x66c, Value.int .i64 (↑x66n : Int), Value.int .i64 0], H) = some (Ex.exit 2, [Value.slice z0a z0n z0c, Value.int .i64 z1, Value.int .i64 z2, Value.slice z10a z10n z10c, Value.slice z11a z11n z11c, Value.slice z12a z12n z12c, Value.int .i64 z13], H2)) (h7 : aindexAddr cfg.P 34 (Value.slice z12a z12n z12c) (Value.int .i64 z13) = some (Value.pointer (some ⟨x95p, x95o, some x95l⟩))) (h8 : getCells H2 x95p x95l x95o 1 = some [Value.int .i64 x96]) (h9 : (x96 == z1) = true) : lpOf cfg a21 0 prot H0 ([.slice x0a x0n x0c, .int .i64 x1, .int .i64 x2, .slice x10a x10n x10c, .slice x11a x11n x11c, .slice x12a x12n x12c, .int .i64 x13], H) = some (Sum.inr (Ex.exit 0, [Value.slice z0a z0n z0c, Value.int .i64 z1, Value.int .i64 z2, Value.slice z10a z10n z10c], H2)) :=
  lp_of2 [.e, .e, .b true, .v (.pointer (some ⟨x63p, x63o, some x63l⟩)), .v (.int .i64 x64), .v (.pointer (some ⟨x65p, x65o, some x65l⟩)), .v (.slice x66a x66n x66c), .e, .lo (.exit 2, [.slice z0a z0n z0c, .int .i64 z1, .int .i64 z2, .slice z10a z10n z10c, .slice z11a z11n z11c, .slice z12a z12n z12c, .int .i64 z13], H2), .v (.pointer (some ⟨x95p, x95o, some x95l⟩)), .v (.int .i64 x96), .e, .b true] (ai (decide_eq_true h1) (ai h2 (ai h3 (ai h4 (ai h5 (ai h6 (ai h7 (ai h8 (ai h9 (Eq.refl (Sum.inr (Ex.exit 0, [Value.slice z0a z0n z0c, Value.int .i64 z1, Value.int .i64 z2, Value.slice z10a z10n z10c], H2) : LS ⊕ LO))))))))))) (by kernel_rfl)
theorem f21_L0_1 {x0a : Option Addr} {x0n x0c : Nat} {x1 x2 : Int} {x10a : Option Addr} {x10n x10c : Nat} {x11a : Option Addr} {x11n x11c : Nat} {x12a : Option Addr} {x12n x12c : Nat} {x13 : Int} {H0 : AHeap} {prot : Nat} {H : AHeap} {x63p x63o x63l : Nat} {x64 : Int} {x65p x65o x65l : Nat} {x66a : Option Addr} {x66n x66c : Nat} {z0a : Option Addr} {z0n z0c : Nat} {z1 z2 : Int} {z10a : Option Addr} {z10n z10c : Nat} {z11a : Option Addr} {z11n z11c : Nat} {z12a : Option Addr} {z12n z12c : Nat} {z13 : Int} {H2 : AHeap} {x95p x95o x95l : Nat} {x96 : Int} (h1 : x13 < (↑x12n : Int)) (h2 : aindexAddr cfg.P 34 (Value.slice x12a x12n x12c) (Value.int .i64 x13) = some (Value.pointer (some ⟨x63p, x63o, some x63l⟩))) (h3 : getCells H x63p x63l x63o 1 = some [Value.int .i64 x64]) (h4 : aindexAddr cfg.P 22 (Value.slice x11a x11n x11c) (Value.int .i64 x64) = some (Value.pointer (some ⟨x65p, x65o, some x65l⟩))) (h5 : getCells H x65p x65l x65o 1 = some [Value.slice x66a x66n x66c]) (h6 : lpInf (lpOf cfg a21 1 prot H0) ([Value.slice x0a x0n x0c, Value.int .i64 x1, Value.int .i64 x2, Value.slice x10a x10n x10c, Value.slice x11a x11n x11c, Value.slice x12a x12n x12c, Value.int .i64 x13, Value.slice x66a x66n x66c, Value.int .i64 (↑x66n : Int), Value.int .i64 0], H) = some (Ex.exit 2, [Value.slice z0a z0n z0c, Value.int .i64 z1, Value.int .i64 z2, Value.slice z10a z10n z10c, Value.slice z11a z11n z11c, Value.slice z12a z12n z12c, Value.int .i64 z13], H2)) (h7 : aindexAddr cfg.P 34 (Value.slice z12a z12n z12c) (Value.int .i64 z13) = some (Value.pointer (some ⟨x95p, x95o, some x95l⟩))) (h8 : getCells H2 x95p x95l x95o 1 = some [Value.int .i64 x96]) (h9 : (x96 == z1) = false) (h10 : Fit .i64 (z13 + 1)) : lpOf cfg a21 0 prot H0 ([.slice x0a x0n x0c, .int .i64 x1, .int .i64 x2, .slice x10a x10n x10c, .slice x11a x11n x11c, .slice x12a x12n x12c, .int .i64 x13], H) = some (Sum.inl ([Value.slice z0a z0n z0c, Value.int .i64 z1, Value.int .i64 z2, Value.slice z10a z10n z10c, Value.slice z11a z11n z11c, Value.slice z12a z12n z12c, Value.int .i64 (z13 + 1)], H2)) :=
  lp_of2 [.e, .e, .b true, .v (.pointer (some ⟨x63p, x63o, some x63l⟩)), .v (.int .i64 x64), .v (.pointer (some ⟨x65p, x65o, some x65l⟩)), .v (.slice x66a x66n x66c), .e, .lo (.exit 2, [.slice z0a z0n z0c, .int .i64 z1, .int .i64 z2, .slice z10a z10n z10c, .slice z11a z11n z11c, .slice z12a z12n z12c, .int .i64 z13], H2), .v (.pointer (some ⟨x95p, x95o, some x95l⟩)), .v (.int .i64 x96), .e, .b false, .e] (ai (decide_eq_true h1) (ai h2 (ai h3 (ai h4 (ai h5 (ai h6 (ai h7 (ai h8 (ai h9 (ai h10 (Eq.refl (Sum.inl ([Value.slice z0a z0n z0c, Value.int .i64 z1, Value.int .i64 z2, Value.slice z10a z10n z10c, Value.slice z11a z11n z11c, Value.slice z12a z12n z12c, Value.int .i64 (z13 + 1)], H2) : LS ⊕ LO)))))))))))) (by kernel_rfl)
theorem f21_L0_2 {x0a : Option Addr} {x0n x0c : Nat} {x1 x2 : Int} {x10a : Option Addr} {x10n x10c : Nat} {x11a : Option Addr} {x11n x11c : Nat} {x12a : Option Addr} {x12n x12c : Nat} {x13 : Int} {H0 : AHeap} {prot : Nat} {H : AHeap} (h1 : ¬(x13 < (↑x12n : Int))) : lpOf cfg a21 0 prot H0 ([.slice x0a x0n x0c, .int .i64 x1, .int .i64 x2, .slice x10a x10n x10c, .slice x11a x11n x11c, .slice x12a x12n x12c, .int .i64 x13], H) = some (Sum.inr (Ex.exit 0, [Value.slice x0a x0n x0c, Value.int .i64 x1, Value.int .i64 x2, Value.slice x10a x10n x10c], H)) :=
  lp_of2 [.e, .e, .b false] (ai (decide_eq_false h1) (Eq.refl (Sum.inr (Ex.exit 0, [Value.slice x0a x0n x0c, Value.int .i64 x1, Value.int .i64 x2, Value.slice x10a x10n x10c], H) : LS ⊕ LO))) (by kernel_rfl)
theorem f21_L1_0 {x0a : Option Addr} {x0n x0c : Nat} {x1 x2 : Int} {x10a : Option Addr} {x10n x10c : Nat} {x11a : Option Addr} {x11n x11c : Nat} {x12a : Option Addr} {x12n x12c : Nat} {x13 : Int} {x66a : Option Addr} {x66n x66c : Nat} {x67 x68 : Int} {H0 : AHeap} {prot : Nat} {H : AHeap} {x70p x70o x70l : Nat} {x71 : Int} {x74p x74o x74l : Nat} {x75 : Int} {x82p x82o x82l : Nat} {x83 : Int} {x84p x84o x84l : Nat} {x85 : Int} {x87p x87o x87l : Nat} {H2 : AHeap} {x91a : Option Addr} {x91n x91c : Nat} {H3 : AHeap} (h1 : x68 < x67) (h2 : aindexAddr cfg.P 34 (Value.slice x66a x66n x66c) (Value.int .i64 x68) = some (Value.pointer (some ⟨x70p, x70o, some x70l⟩))) (h3 : getCells H x70p x70l x70o 1 = some [Value.int .i64 x71]) (h4 : aindexAddr cfg.P 34 (Value.slice x10a x10n x10c) (Value.int .i64 x71) = some (Value.pointer (some ⟨x74p, x74o, some x74l⟩))) (h5 : getCells H x74p x74l x74o 1 = some [Value.int .i64 x75]) (h6 : (x75 == 0) = true) (h7 : aindexAddr cfg.P 34 (Value.slice x12a x12n x12c) (Value.int .i64 x13) = some (Value.pointer (some ⟨x82p, x82o, some x82l⟩))) (h8 : getCells H x82p x82l x82o 1 = some [Value.int .i64 x83]) (h9 : aindexAddr cfg.P 34 (Value.slice x10a x10n x10c) (Value.int .i64 x83) = some (Value.pointer (some ⟨x84p, x84o, some x84l⟩))) (h10 : getCells H x84p x84l x84o 1 = some [Value.int .i64 x85]) (h11 : Fit .i64 (x85 + 1)) (h12 : aindexAddr cfg.P 34 (Value.slice x10a x10n x10c) (Value.int .i64 x71) = some (Value.pointer (some ⟨x87p, x87o, some x87l⟩))) (h13 : [Value.int .i64 (x85 + 1)].length = 1) (h14 : setCells H (List.length H0) x87p x87l x87o [Value.int .i64 (x85 + 1)] = some H2) (h15 : aappend cfg.P (List.length H0) true 34 34 (Value.slice x12a x12n x12c) (Value.slice (some ⟨List.length H2, 0, some (1 * 1)⟩) 1 1) (H2 ++ [wo [Value.int .i64 x71] 3]) = some (Value.slice x91a x91n x91c, H3)) (h16 : Fit .i64 (x68 + 1)) : lpOf cfg a21 1 prot H0 ([.slice x0a x0n x0c, .int .i64 x1, .int .i64 x2, .slice x10a x10n x10c, .slice x11a x11n x11c, .slice x12a x12n x12c, .int .i64 x13, .slice x66a x66n x66c, .int .i64 x67, .int .i64 x68], H) = some (Sum.inl ([Value.slice x0a x0n x0c, Value.int .i64 x1, Value.int .i64 x2, Value.slice x10a x10n x10c, Value.slice x11a x11n x11c, Value.slice x91a x91n x91c, Value.int .i64 x13, Value.slice x66a x66n x66c, Value.int .i64 x67, Value.int .i64 (x68 + 1)], H3)) :=
  lp_of2 [.e, .b true, .v (.pointer (some ⟨x70p, x70o, some x70l⟩)), .v (.int .i64 x71), .v (.pointer (some ⟨x74p, x74o, some x74l⟩)), .v (.int .i64 x75), .e, .b true, .v (.pointer (some ⟨x82p, x82o, some x82l⟩)), .v (.int .i64 x83), .v (.pointer (some ⟨x84p, x84o, some x84l⟩)), .v (.int .i64 x85), .e, .v (.pointer (some ⟨x87p, x87o, some x87l⟩)), .h H2, .e, .r (.slice x91a x91n x91c) H3, .e] (ai (decide_eq_true h1) (ai h2 (ai h3 (ai h4 (ai h5 (ai h6 (ai h7 (ai h8 (ai h9 (ai h10 (ai h11 (ai h12 (ai h13 (ai h14 (ai h15 (ai h16 (Eq.refl (Sum.inl ([Value.slice x0a x0n x0c, Value.int .i64 x1, Value.int .i64 x2, Value.slice x10a x10n x10c, Value.slice x11a x11n x11c, Value.slice x91a x91n x91c, Value.int .i64 x13, Value.slice x66a x66n x66c, Value.int .i64 x67, Value.int .i64 (x68 + 1)], H3) : LS ⊕ LO)))))))))))))))))) (by kernel_rfl)
theorem f21_L1_1 {x0a : Option Addr} {x0n x0c : Nat} {x1 x2 : Int} {x10a : Option Addr} {x10n x10c : Nat} {x11a : Option Addr} {x11n x11c : Nat} {x12a : Option Addr} {x12n x12c : Nat} {x13 : Int} {x66a : Option Addr} {x66n x66c : Nat} {x67 x68 : Int} {H0 : AHeap} {prot : Nat} {H : AHeap} {x70p x70o x70l : Nat} {x71 : Int} {x74p x74o x74l : Nat} {x75 : Int} (h1 : x68 < x67) (h2 : aindexAddr cfg.P 34 (Value.slice x66a x66n x66c) (Value.int .i64 x68) = some (Value.pointer (some ⟨x70p, x70o, some x70l⟩))) (h3 : getCells H x70p x70l x70o 1 = some [Value.int .i64 x71]) (h4 : aindexAddr cfg.P 34 (Value.slice x10a x10n x10c) (Value.int .i64 x71) = some (Value.pointer (some ⟨x74p, x74o, some x74l⟩))) (h5 : getCells H x74p x74l x74o 1 = some [Value.int .i64 x75]) (h6 : (x75 == 0) = false) (h7 : Fit .i64 (x68 + 1)) : lpOf cfg a21 1 prot H0 ([.slice x0a x0n x0c, .int .i64 x1, .int .i64 x2, .slice x10a x10n x10c, .slice x11a x11n x11c, .slice x12a x12n x12c, .int .i64 x13, .slice x66a x66n x66c, .int .i64 x67, .int .i64 x68], H) = some (Sum.inl ([Value.slice x0a x0n x0c, Value.int .i64 x1, Value.int .i64 x2, Value.slice x10a x10n x10c, Value.slice x11a x11n x11c, Value.slice x12a x12n x12c, Value.int .i64 x13, Value.slice x66a x66n x66c, Value.int .i64 x67, Value.int .i64 (x68 + 1)], H)) :=
  lp_of2 [.e, .b true, .v (.pointer (some ⟨x70p, x70o, some x70l⟩)), .v (.int .i64 x71), .v (.pointer (some ⟨x74p, x74o, some x74l⟩)), .v (.int .i64 x75), .e, .b false, .e] (ai (decide_eq_true h1) (ai h2 (ai h3 (ai h4 (ai h5 (ai h6 (ai h7 (Eq.refl (Sum.inl ([Value.slice x0a x0n x0c, Value.int .i64 x1, Value.int .i64 x2, Value.slice x10a x10n x10c, Value.slice x11a x11n x11c, Value.slice x12a x12n x12c, Value.int .i64 x13, Value.slice x66a x66n x66c, Value.int .i64 x67, Value.int .i64 (x68 + 1)], H) : LS ⊕ LO))))))))) (by kernel_rfl)
theorem f21_L1_2 {x0a : Option Addr} {x0n x0c : Nat} {x1 x2 : Int} {x10a : Option Addr} {x10n x10c : Nat} {x11a : Option Addr} {x11n x11c : Nat} {x12a : Option Addr} {x12n x12c : Nat} {x13 : Int} {x66a : Option Addr} {x66n x66c : Nat} {x67 x68 : Int} {H0 : AHeap} {prot : Nat} {H : AHeap} (h1 : ¬(x68 < x67)) : lpOf cfg a21 1 prot H0 ([.slice x0a x0n x0c, .int .i64 x1, .int .i64 x2, .slice x10a x10n x10c, .slice x11a x11n x11c, .slice x12a x12n x12c, .int .i64 x13, .slice x66a x66n x66c, .int .i64 x67, .int .i64 x68], H) = some (Sum.inr (Ex.exit 2, [Value.slice x0a x0n x0c, Value.int .i64 x1, Value.int .i64 x2, Value.slice x10a x10n x10c, Value.slice x11a x11n x11c, Value.slice x12a x12n x12c, Value.int .i64 x13], H)) :=
  lp_of2 [.e, .b false] (ai (decide_eq_false h1) (Eq.refl (Sum.inr (Ex.exit 2, [Value.slice x0a x0n x0c, Value.int .i64 x1, Value.int .i64 x2, Value.slice x10a x10n x10c, Value.slice x11a x11n x11c, Value.slice x12a x12n x12c, Value.int .i64 x13], H) : LS ⊕ LO))) (by kernel_rfl)
theorem f21_L2_0 {x0a : Option Addr} {x0n x0c : Nat} {x2 : Int} {x10a : Option Addr} {x10n x10c : Nat} {x16a : Option Addr} {x16n x16c : Nat} {x17 : Int} {H0 : AHeap} {prot : Nat} {H : AHeap} {x114p x114o x114l : Nat} {x115a : Option Addr} {x115n x115c : Nat} {z0a : Option Addr} {z0n z0c : Nat} {z2 : Int} {z10a : Option Addr} {z10n z10c : Nat} {z16a : Option Addr} {z16n z16c : Nat} {z18 : Int} {H2 : AHeap} {x146a : Option Addr} {x146n x146c : Nat} {H3 : AHeap} (h1 : (x17 != x2) = true) (h2 : aindexAddr cfg.P 22 (Value.slice x0a x0n x0c) (Value.int .i64 x17) = some (Value.pointer (some ⟨x114p, x114o, some x114l⟩))) (h3 : getCells H x114p x114l x114o 1 = some [Value.slice x115a x115n x115c]) (h4 : lpInf (lpOf cfg a21 3 prot H0) ([Value.slice x0a x0n x0c, Value.int .i64 x2, Value.slice x10a x10n x10c, Value.slice x16a x16n x16c, Value.int .i64 x17, Value.int .i64 (↑x0n : Int), Value.slice x115a x115n x115c, Value.int .i64 (↑x115n : Int), Value.int .i64 0], H) = some (Ex.exit 6, [Value.slice z0a z0n z0c, Value.int .i64 z2, Value.slice z10a z10n z10c, Value.slice z16a z16n z16c, Value.int .i64 z18], H2)) (h5 : aappend cfg.P (List.length H0) true 34 34 (Value.slice z16a z16n z16c) (Value.slice (some ⟨List.length H2, 0, some (1 * 1)⟩) 1 1) (H2 ++ [wo [Value.int .i64 z18] 3]) = some (Value.slice x146a x146n x146c, H3)) : lpOf cfg a21 2 prot H0 ([.slice x0a x0n x0c, .int .i64 x2, .slice x10a x10n x10c, .slice x16a x16n x16c, .int .i64 x17], H) = some (Sum.inl ([Value.slice z0a z0n z0c, Value.int .i64 z2, Value.slice z10a z10n z10c, Value.slice x146a x146n x146c, Value.int .i64 z18], H3)) :=
  lp_of2 [.e, .b true, .e, .v (.pointer (some ⟨x114p, x114o, some x114l⟩)), .v (.slice x115a x115n x115c), .e, .lo (.exit 6, [.slice z0a z0n z0c, .int .i64 z2, .slice z10a z10n z10c, .slice z16a z16n z16c, .int .i64 z18], H2), .e, .r (.slice x146a x146n x146c) H3] (ai h1 (ai h2 (ai h3 (ai h4 (ai h5 (Eq.refl (Sum.inl ([Value.slice z0a z0n z0c, Value.int .i64 z2, Value.slice z10a z10n z10c, Value.slice x146a x146n x146c, Value.int .i64 z18], H3) : LS ⊕ LO))))))) (by kernel_rfl)
theorem f21_L2_1 {x0a : Option Addr} {x0n x0c : Nat} {x2 : Int} {x10a : Option Addr} {x10n x10c : Nat} {x16a : Option Addr} {x16n x16c : Nat} {x17 : Int} {H0 : AHeap} {prot : Nat} {H : AHeap} (h1 : (x17 != x2) = false) : lpOf cfg a21 2 prot H0 ([.slice x0a x0n x0c, .int .i64 x2, .slice x10a x10n x10c, .slice x16a x16n x16c, .int .i64 x17], H) = some (Sum.inr (Ex.exit 4, [Value.slice x16a x16n x16c], H)) :=
  lp_of2 [.e, .b false] (ai h1 (Eq.refl (Sum.inr (Ex.exit 4, [Value.slice x16a x16n x16c], H) : LS ⊕ LO))) (by kernel_rfl)
theorem f21_L3_0 {x0a : Option Addr} {x0n x0c : Nat} {x2 : Int} {x10a : Option Addr} {x10n x10c : Nat} {x16a : Option Addr} {x16n x16c : Nat} {x17 x18 : Int} {x115a : Option Addr} {x115n x115c : Nat} {x116 x117 : Int} {H0 : AHeap} {prot : Nat} {H : AHeap} {x119p x119o x119l : Nat} {x120 : Int} {x123p x123o x123l : Nat} {x124 : Int} {x127p x127o x127l : Nat} {x128 : Int} {x134p x134o x134l : Nat} {x135 : Int} (h1 : x117 < x116) (h2 : aindexAddr cfg.P 34 (Value.slice x115a x115n x115c) (Value.int .i64 x117) = some (Value.pointer (some ⟨x119p, x119o, some x119l⟩))) (h3 : getCells H x119p x119l x119o 1 = some [Value.int .i64 x120]) (h4 : aindexAddr cfg.P 34 (Value.slice x10a x10n x10c) (Value.int .i64 x120) = some (Value.pointer (some ⟨x123p, x123o, some x123l⟩))) (h5 : getCells H x123p x123l x123o 1 = some [Value.int .i64 x124]) (h6 : aindexAddr cfg.P 34 (Value.slice x10a x10n x10c) (Value.int .i64 x17) = some (Value.pointer (some ⟨x127p, x127o, some x127l⟩))) (h7 : getCells H x127p x127l x127o 1 = some [Value.int .i64 x128]) (h8 : Fit .i64 (x128 - 1)) (h9 : (x124 == x128 - 1) = true) (h10 : aindexAddr cfg.P 34 (Value.slice x10a x10n x10c) (Value.int .i64 x120) = some (Value.pointer (some ⟨x134p, x134o, some x134l⟩))) (h11 : getCells H x134p x134l x134o 1 = some [Value.int .i64 x135]) (h12 : x135 > 0) (h13 : Fit .i64 (x117 + 1)) : lpOf cfg a21 3 prot H0 ([.slice x0a x0n x0c, .int .i64 x2, .slice x10a x10n x10c, .slice x16a x16n x16c, .int .i64 x17, .int .i64 x18, .slice x115a x115n x115c, .int .i64 x116, .int .i64 x117], H) = some (Sum.inl ([Value.slice x0a x0n x0c, Value.int .i64 x2, Value.slice x10a x10n x10c, Value.slice x16a x16n x16c, Value.int .i64 x17, Value.int .i64 (if x120 < x18 then x120 else x18), Value.slice x115a x115n x115c, Value.int .i64 x116, Value.int .i64 (x117 + 1)], H)) :=
  lp_of2 [.e, .b true, .v (.pointer (some ⟨x119p, x119o, some x119l⟩)), .v (.int .i64 x120), .v (.pointer (some ⟨x123p, x123o, some x123l⟩)), .v (.int .i64 x124), .v (.pointer (some ⟨x127p, x127o, some x127l⟩)), .v (.int .i64 x128), .e, .e, .b true, .b true, .b true, .v (.pointer (some ⟨x134p, x134o, some x134l⟩)), .b true, .v (.int .i64 x135), .b true, .e, .b true, .b true, .e, .e] (ai (decide_eq_true h1) (ai h2 (ai h3 (ai h4 (ai h5 (ai h6 (ai h7 (ai h8 (ai h9 (ai h9 (ai h9 (ai h10 (ai h9 (ai h11 (ai h9 (ai h9 (ai (decide_eq_true h12) (ai h13 (Eq.refl (Sum.inl ([Value.slice x0a x0n x0c, Value.int .i64 x2, Value.slice x10a x10n x10c, Value.slice x16a x16n x16c, Value.int .i64 x17, Value.int .i64 (if x120 < x18 then x120 else x18), Value.slice x115a x115n x115c, Value.int .i64 x116, Value.int .i64 (x117 + 1)], H) : LS ⊕ LO)))))))))))))))))))) (by kernel_rfl)
theorem f21_L3_1 {x0a : Option Addr} {x0n x0c : Nat} {x2 : Int} {x10a : Option Addr} {x10n x10c : Nat} {x16a : Option Addr} {x16n x16c : Nat} {x17 x18 : Int} {x115a : Option Addr} {x115n x115c : Nat} {x116 x117 : Int} {H0 : AHeap} {prot : Nat} {H : AHeap} {x119p x119o x119l : Nat} {x120 : Int} {x123p x123o x123l : Nat} {x124 : Int} {x127p x127o x127l : Nat} {x128 : Int} {x134p x134o x134l : Nat} {x135 : Int} (h1 : x117 < x116) (h2 : aindexAddr cfg.P 34 (Value.slice x115a x115n x115c) (Value.int .i64 x117) = some (Value.pointer (some ⟨x119p, x119o, some x119l⟩))) (h3 : getCells H x119p x119l x119o 1 = some [Value.int .i64 x120]) (h4 : aindexAddr cfg.P 34 (Value.slice x10a x10n x10c) (Value.int .i64 x120) = some (Value.pointer (some ⟨x123p, x123o, some x123l⟩))) (h5 : getCells H x123p x123l x123o 1 = some [Value.int .i64 x124]) (h6 : aindexAddr cfg.P 34 (Value.slice x10a x10n x10c) (Value.int .i64 x17) = some (Value.pointer (some ⟨x127p, x127o, some x127l⟩))) (h7 : getCells H x127p x127l x127o 1 = some [Value.int .i64 x128]) (h8 : Fit .i64 (x128 - 1)) (h9 : (x124 == x128 - 1) = true) (h10 : aindexAddr cfg.P 34 (Value.slice x10a x10n x10c) (Value.int .i64 x120) = some (Value.pointer (some ⟨x134p, x134o, some x134l⟩))) (h11 : getCells H x134p x134l x134o 1 = some [Value.int .i64 x135]) (h12 : ¬(x135 > 0)) (h13 : Fit .i64 (x117 + 1)) : lpOf cfg a21 3 prot H0 ([.slice x0a x0n x0c, .int .i64 x2, .slice x10a x10n x10c, .slice x16a x16n x16c, .int .i64 x17, .int .i64 x18, .slice x115a x115n x115c, .int .i64 x116, .int .i64 x117], H) = some (Sum.inl ([Value.slice x0a x0n x0c, Value.int .i64 x2, Value.slice x10a x10n x10c, Value.slice x16a x16n x16c, Value.int .i64 x17, Value.int .i64 x18, Value.slice x115a x115n x115c, Value.int .i64 x116, Value.int .i64 (x117 + 1)], H)) :=
  lp_of2 [.e, .b true, .v (.pointer (some ⟨x119p, x119o, some x119l⟩)), .v (.int .i64 x120), .v (.pointer (some ⟨x123p, x123o, some x123l⟩)), .v (.int .i64 x124), .v (.pointer (some ⟨x127p, x127o, some x127l⟩)), .v (.int .i64 x128), .e, .e, .b true, .b true, .b true, .v (.pointer (some ⟨x134p, x134o, some x134l⟩)), .b true, .v (.int .i64 x135), .b true, .e, .b true, .b false, .e] (ai (decide_eq_true h1) (ai h2 (ai h3 (ai h4 (ai h5 (ai h6 (ai h7 (ai h8 (ai h9 (ai h9 (ai h9 (ai h10 (ai h9 (ai h11 (ai h9 (ai h9 (ai (decide_eq_false h12) (ai h13 (Eq.refl (Sum.inl ([Value.slice x0a x0n x0c, Value.int .i64 x2, Value.slice x10a x10n x10c, Value.slice x16a x16n x16c, Value.int .i64 x17, Value.int .i64 x18, Value.slice x115a x115n x115c, Value.int .i64 x116, Value.int .i64 (x117 + 1)], H) : LS ⊕ LO)))))))))))))))))))) (by kernel_rfl)
theorem f21_L3_2 {x0a : Option Addr} {x0n x0c : Nat} {x2 : Int} {x10a : Option Addr} {x10n x10c : Nat} {x16a : Option Addr} {x16n x16c : Nat} {x17 x18 : Int} {x115a : Option Addr} {x115n x115c : Nat} {x116 x117 : Int} {H0 : AHeap} {prot : Nat} {H : AHeap} {x119p x119o x119l : Nat} {x120 : Int} {x123p x123o x123l : Nat} {x124 : Int} {x127p x127o x127l : Nat} {x128 : Int} (h1 : x117 < x116) (h2 : aindexAddr cfg.P 34 (Value.slice x115a x115n x115c) (Value.int .i64 x117) = some (Value.pointer (some ⟨x119p, x119o, some x119l⟩))) (h3 : getCells H x119p x119l x119o 1 = some [Value.int .i64 x120]) (h4 : aindexAddr cfg.P 34 (Value.slice x10a x10n x10c) (Value.int .i64 x120) = some (Value.pointer (some ⟨x123p, x123o, some x123l⟩))) (h5 : getCells H x123p x123l x123o 1 = some [Value.int .i64 x124]) (h6 : aindexAddr cfg.P 34 (Value.slice x10a x10n x10c) (Value.int .i64 x17) = some (Value.pointer (some ⟨x127p, x127o, some x127l⟩))) (h7 : getCells H x127p x127l x127o 1 = some [Value.int .i64 x128]) (h8 : Fit .i64 (x128 - 1)) (h9 : (x124 == x128 - 1) = false) (h10 : Fit .i64 (x117 + 1)) : lpOf cfg a21 3 prot H0 ([.slice x0a x0n x0c, .int .i64 x2, .slice x10a x10n x10c, .slice x16a x16n x16c, .int .i64 x17, .int .i64 x18, .slice x115a x115n x115c, .int .i64 x116, .int .i64 x117], H) = some (Sum.inl ([Value.slice x0a x0n x0c, Value.int .i64 x2, Value.slice x10a x10n x10c, Value.slice x16a x16n x16c, Value.int .i64 x17, Value.int .i64 x18, Value.slice x115a x115n x115c, Value.int .i64 x116, Value.int .i64 (x117 + 1)], H)) :=
  lp_of2 [.e, .b true, .v (.pointer (some ⟨x119p, x119o, some x119l⟩)), .v (.int .i64 x120), .v (.pointer (some ⟨x123p, x123o, some x123l⟩)), .v (.int .i64 x124), .v (.pointer (some ⟨x127p, x127o, some x127l⟩)), .v (.int .i64 x128), .e, .e, .b false, .b false, .b false, .b false, .b false, .b false, .b false, .e] (ai (decide_eq_true h1) (ai h2 (ai h3 (ai h4 (ai h5 (ai h6 (ai h7 (ai h8 (ai h9 (ai h9 (ai h9 (ai h9 (ai h9 (ai h9 (ai (Eq.refl false) (ai h10 (Eq.refl (Sum.inl ([Value.slice x0a x0n x0c, Value.int .i64 x2, Value.slice x10a x10n x10c, Value.slice x16a x16n x16c, Value.int .i64 x17, Value.int .i64 x18, Value.slice x115a x115n x115c, Value.int .i64 x116, Value.int .i64 (x117 + 1)], H) : LS ⊕ LO)))))))))))))))))) (by kernel_rfl)
theorem f21_L3_3 {x0a : Option Addr} {x0n x0c : Nat} {x2 : Int} {x10a : Option Addr} {x10n x10c : Nat} {x16a : Option Addr} {x16n x16c : Nat} {x17 x18 : Int} {x115a : Option Addr} {x115n x115c : Nat} {x116 x117 : Int} {H0 : AHeap} {prot : Nat} {H : AHeap} (h1 : ¬(x117 < x116)) : lpOf cfg a21 3 prot H0 ([.slice x0a x0n x0c, .int .i64 x2, .slice x10a x10n x10c, .slice x16a x16n x16c, .int .i64 x17, .int .i64 x18, .slice x115a x115n x115c, .int .i64 x116, .int .i64 x117], H) = some (Sum.inr (Ex.exit 6, [Value.slice x0a x0n x0c, Value.int .i64 x2, Value.slice x10a x10n x10c, Value.slice x16a x16n x16c, Value.int .i64 x18], H)) :=
  lp_of2 [.e, .b false] (ai (decide_eq_false h1) (Eq.refl (Sum.inr (Ex.exit 6, [Value.slice x0a x0n x0c, Value.int .i64 x2, Value.slice x10a x10n x10c, Value.slice x16a x16n x16c, Value.int .i64 x18], H) : LS ⊕ LO))) (by kernel_rfl)
end Go.Proofs.Ytkemihfaohkoeaa.Am11
namespace Go.Proofs.Ytkemihfaohkoeaa.Am11
open Go Go.Proofs.Ytkemihfaohkoeaa.Am
def farL (F : Nat → Nat) (N : Nat) : List Nat := (List.range N).map F
theorem farL_get {F : Nat → Nat} {N u : Nat} (h : u < N) : (il (nl (farL F N)))[u]? = some (.int .i64 ((F u : Nat) : Int)) := by
  unfold il nl farL
  rw [List.getElem?_map, List.getElem?_map, List.getElem?_map, List.getElem?_range h]; rfl
theorem farL_set {F : Nat → Nat} {N u : Nat} (c : Nat) (h : u < N) : (nl (farL F N)).set u (c : Int) = nl (farL (setF F u c) N) := by
  unfold nl farL
  apply List.ext_getElem?
  intro x
  by_cases e : x = u
  · subst e
    rw [List.getElem?_set_self (by simp; exact h), List.getElem?_map, List.getElem?_map, List.getElem?_range h]
    simp [setF]
  · rw [List.getElem?_set_ne (fun h => e h.symm), List.getElem?_map, List.getElem?_map, List.getElem?_map, List.getElem?_map]
    by_cases hx : x < N
    · rw [List.getElem?_range hx]; simp [setF, e]
    · rw [List.getElem?_eq_none (by simp; omega)]; rfl
theorem farL_len (F : Nat → Nat) (N : Nat) : (nl (farL F N)).length = N := by simp [nl, farL]
/-- The search's memory. -/
structure PS (H0 H : AHeap) (N : Nat) (x10 x11 x12 : Value) (o10 o12 : Nat) (r : Nat → Value) (F : Nat → Nat) (Q : List Nat) (T : Nat → List Nat) : Prop where
  st : Stay none H0 H
  far : Own H 3 1 x10 (some o10) N (il (nl (farL F N)))
  q : Own H 3 1 x12 (some o12) Q.length (il (nl Q))
  b10 : H0.length ≤ o10
  b12 : H0.length ≤ o12
  ne : o10 ≠ o12
  bk : ∃ cs, Rd H 34 1 x11 N cs ∧ ∀ j, j < N → cs[j]? = some (r j) ∧ Rd H 3 1 (r j) (T j).length (il (nl (T j)))
  sf : ∀ j, j < N → ∀ id off L n c, r j = .slice (some ⟨id, off, some L⟩) n c → id ≠ o10 ∧ id ≠ o12
theorem PS.meet {H0 H : AHeap} {N : Nat} {x10 x11 x12 : Value} {o10 o12 : Nat} {r : Nat → Value} {F : Nat → Nat} {Q : List Nat} {T : Nat → List Nat} (h : PS H0 H N x10 x11 x12 o10 o12 r F Q T) {u : Nat} (hu : u < N) (c : Nat) (hQ : Q.length ≤ 512) :
    ∃ id L H2 a' c' H3, aindexAddr cfg.P 34 x10 (.int .i64 (u : Nat)) = some (.pointer (some ⟨id, u, some L⟩)) ∧ setCells H H0.length id L u [.int .i64 (c : Int)] = some H2 ∧
      aappend cfg.P H0.length true 34 34 x12 (.slice (some ⟨H2.length, 0, some (1 * 1)⟩) 1 1) (H2 ++ [wo [.int .i64 (u : Int)] 3]) = some (.slice a' (Q.length + 1) c', H3) ∧
      PS H0 H3 N x10 x11 (.slice a' (Q.length + 1) c') o10 o12 r (setF F u c) (Q ++ [u]) T := by
  obtain ⟨id, H2, e, s1, s2, s3, s4, s5⟩ := own_setS T34 h.far (i := u) (j := 0) hu (vs := [.int .i64 (c : Int)]) (by simp) rfl (prot := H0.length) (fun id e => by cases e; exact h.b10)
  cases e
  rw [put_il _ (by rw [farL_len]; exact hu), farL_set c hu] at s3
  rw [Nat.mul_one] at s1
  rw [Nat.mul_one, Nat.add_zero] at s2
  have hst2 := h.st.over s4 (fun id e => by cases e; exact h.b10)
  have hq2 := h.q.stay s4 (fun id e1 e2 => h.ne (by rw [← Option.some.inj e1] at e2; exact Option.some.inj e2))
  have hl2 := hst2.1
  obtain ⟨a', c', o', H3, q1, q2, q3, q4, q5, q6⟩ := own_app T34 hq2 (ecs := [.int .i64 (u : Int)]) rfl rfl (prot := H0.length) (room := true) (fun id e => by cases e; exact h.b12) (by omega) (by omega) (L := 1 * 1) rfl (el := [Value.int .i64 (u : Int)].length) rfl
  have e12 := q6 o12 rfl
  subst e12
  have hil : il (nl Q) ++ [Value.int .i64 (u : Int)] = il (nl (Q ++ [u])) := by simp [il, nl]
  rw [hil] at q2
  refine ⟨_, _, H2, a', c', H3, s1, s2, q1, ⟨hst2.over q3 (fun id e => by cases e; exact h.b12), ?_, by rw [List.length_append]; exact q2, h.b10, h.b12, h.ne, ?_, h.sf⟩⟩
  · exact s3.stay q3 (fun id e1 e2 => h.ne (by rw [← Option.some.inj e1] at e2; exact (Option.some.inj e2).symm))
  · obtain ⟨cs, c1, c2⟩ := h.bk
    obtain ⟨_, _, _, w1, _, g1⟩ := h.far
    obtain ⟨_, _, _, w2, _, g2⟩ := hq2
    refine ⟨cs, (c1.stayE g1 (by decide) s4).stayE g2 (by decide) q3, fun j hj => ?_⟩
    obtain ⟨d1, d2⟩ := c2 j hj
    exact ⟨d1, (d2.stayNe s4 (fun id off L n c e1 e2 => (h.sf j hj id off L n c e1).1 (Option.some.inj e2).symm)).stayNe q3 (fun id off L n c e1 e2 => (h.sf j hj id off L n c e1).2 (Option.some.inj e2).symm)⟩

theorem loop21i {G : List (List Int)} (h5 : G.length ≤ 512) {H0 : AHeap} {x0 x10 x11 : Value} (hx0 : ∃ a c, x0 = .slice a G.length c) {f t o10 o12 prot i w : Nat} {r : Nat → Value} (hw : w < G.length) (hlen : (turnT G w).length ≤ 1048576) : ∀ (d m : Nat) (F : Nat → Nat) (Q : List Nat) (x12 : Value) (H : AHeap), m + d = (turnT G w).length → PS H0 H G.length x10 x11 x12 o10 o12 r F Q (turnT G) → BI G t F Q i → i < Q.length → Q.getD i 0 = w → (∀ j u, j < m → (turnT G w)[j]? = some u → 0 < F u) →
    ∃ F' Q' y H', lpInf (lpOf cfg a21 1 prot H0) ([x0, .int .i64 f, .int .i64 t, x10, x11, x12, .int .i64 i, r w, .int .i64 (turnT G w).length, .int .i64 m], H) = some (.exit 2, [x0, .int .i64 f, .int .i64 t, x10, x11, y, .int .i64 i], H') ∧ PS H0 H' G.length x10 x11 y o10 o12 r F' Q' (turnT G) ∧ BI G t F' Q' i ∧ i < Q'.length ∧ Q'.getD i 0 = w ∧ ∀ u ∈ turnT G w, 0 < F' u
  | 0, m, F, Q, x12, H, hm, hP, hB, hi, hQw, hd => by
    refine ⟨F, Q, x12, H, ?_, hP, hB, hi, hQw, fun u hu => ?_⟩
    · obtain ⟨cs, c1, c2⟩ := hP.bk
      obtain ⟨_, d2⟩ := c2 w hw
      obtain ⟨_, _, hre⟩ := d2.len
      obtain ⟨_, _, rfl⟩ := hx0
      obtain ⟨_, _, rfl⟩ := c1.len
      obtain ⟨_, _, rfl⟩ := hP.far.len
      obtain ⟨_, _, rfl⟩ := hP.q.len
      rw [hre]
      exact lp_last (f21_L1_2 (by omega))
    · obtain ⟨j, hj⟩ := List.getElem?_of_mem hu
      have := (List.getElem?_eq_some_iff.1 hj).1
      exact hd j u (by omega) hj
  | d + 1, m, F, Q, x12, H, hm, hP, hB, hi, hQw, hd => by
    have hml : m < (turnT G w).length := by omega
    have hcnt := hB.cnt
    obtain ⟨u, hu⟩ : ∃ u, (turnT G w)[m]? = some u := ⟨_, List.getElem?_eq_getElem hml⟩
    have humem := List.mem_of_getElem? hu
    obtain ⟨hul, hus⟩ := turn_mem.1 humem
    obtain ⟨cs, c1, c2⟩ := hP.bk
    obtain ⟨_, d2⟩ := c2 w hw
    have hget : (il (nl (turnT G w)))[m]? = some (.int .i64 ((u : Nat) : Int)) := by
      unfold il nl
      rw [List.getElem?_map, List.getElem?_map, hu]; rfl
    obtain ⟨i1, L1, a1, a2⟩ := rd_at T34 d2 hget
    obtain ⟨i2, L2, b1, b2⟩ := rd_at T34 hP.far.rd (farL_get hul)
    have fi : Fit .i64 ((m : Int) + 1) := fit64 (by omega) (by omega)
    by_cases hF : F u = 0
    · obtain ⟨i3, L3, e1, e2⟩ := rd_at T34 hP.q.rd (nl_at hi)
      rw [hQw] at e2
      obtain ⟨i4, L4, g1, g2⟩ := rd_at T34 hP.far.rd (farL_get hw)
      have hbd := hB.bd w
      obtain ⟨id, L, H2, a', c', H3, k1, k2, k3, k4⟩ := hP.meet hul (F w + 1) (by omega)
      have hB2 := hB.meet hi hul hF (by rw [hQw]; exact hus)
      rw [hQw] at hB2
      have pos : ∀ x, 0 < F x → 0 < setF F u (F w + 1) x := fun x hx => by unfold setF; split <;> omega
      obtain ⟨F', Q', y, H', z1, z2⟩ := loop21i h5 hx0 (f := f) (t := t) (prot := prot) hw hlen d (m + 1) _ _ _ H3 (by omega) k4 hB2 (by rw [List.length_append, List.length_singleton]; omega) (by rw [getD_snoc_lt hi]; exact hQw) (fun j x hj hx => by
        by_cases e : j = m
        · subst e
          rw [hu] at hx
          cases hx
          unfold setF
          rw [if_pos rfl]
          omega
        · exact pos x (hd j x (by omega) hx))
      refine ⟨F', Q', y, H', ?_, z2⟩
      obtain ⟨_, _, hre⟩ := d2.len
      obtain ⟨_, _, rfl⟩ := hx0
      obtain ⟨_, _, rfl⟩ := c1.len
      obtain ⟨_, _, rfl⟩ := hP.far.len
      obtain ⟨_, _, rfl⟩ := hP.q.len
      rw [hre] at a1 z1 ⊢
      rw [show ((F w + 1 : Nat) : Int) = (F w : Int) + 1 by omega] at k2
      exact lp_next (f21_L1_0 (by omega) a1 a2 b1 b2 (by rw [beq_iff_eq]; omega) e1 e2 g1 g2 (fit64 (by omega) (by omega)) k1 rfl k2 k3 fi) z1
    · obtain ⟨F', Q', y, H', z1, z2⟩ := loop21i h5 hx0 (f := f) (t := t) (prot := prot) hw hlen d (m + 1) F Q x12 H (by omega) hP hB hi hQw (fun j x hj hx => by
        by_cases e : j = m
        · subst e
          rw [hu] at hx
          cases hx
          omega
        · exact hd j x (by omega) hx)
      refine ⟨F', Q', y, H', ?_, z2⟩
      obtain ⟨_, _, hre⟩ := d2.len
      obtain ⟨_, _, rfl⟩ := hx0
      obtain ⟨_, _, rfl⟩ := c1.len
      obtain ⟨_, _, rfl⟩ := hP.far.len
      obtain ⟨_, _, rfl⟩ := hP.q.len
      rw [hre] at a1 z1 ⊢
      exact lp_next (f21_L1_1 (by omega) a1 a2 b1 b2 (by rw [beq_eq_false_iff_ne]; omega) fi) z1

theorem loop21o {G : List (List Int)} (h5 : G.length ≤ 512) (hlen : ∀ j, (turnT G j).length ≤ 1048576) {H0 : AHeap} {x0 x10 x11 : Value} (hx0 : ∃ a c, x0 = .slice a G.length c) {f t o10 o12 prot : Nat} {r : Nat → Value} : ∀ (d i : Nat) (F : Nat → Nat) (Q : List Nat) (x12 : Value) (H : AHeap), i + d = G.length + 1 → PS H0 H G.length x10 x11 x12 o10 o12 r F Q (turnT G) → BI G t F Q i →
    ∃ F' H', lpInf (lpOf cfg a21 0 prot H0) ([x0, .int .i64 f, .int .i64 t, x10, x11, x12, .int .i64 i], H) = some (.exit 0, [x0, .int .i64 f, .int .i64 t, x10], H') ∧ Own H' 3 1 x10 (some o10) G.length (il (nl (farL F' G.length))) ∧ FarOK G t f F' ∧ Stay none H0 H'
  | d, i, F, Q, x12, H, hi, hP, hB => by
    have hcnt := hB.cnt
    by_cases hlt : i < Q.length
    · cases d with
      | zero => omega
      | succ d =>
        have hw := hB.low (Q.getD i 0) (by rw [List.getD_eq_getElem?_getD, List.getElem?_eq_getElem hlt]; exact List.getElem_mem hlt)
        obtain ⟨i1, L1, a1, a2⟩ := rd_at T34 hP.q.rd (nl_at hlt)
        obtain ⟨cs, c1, c2⟩ := hP.bk
        obtain ⟨d1, d2⟩ := c2 _ hw
        obtain ⟨i2, L2, b1, b2⟩ := rd_at T22 c1 d1
        obtain ⟨F1, Q1, y, H1, z1, z2, z3, z4, z5, z6⟩ := loop21i h5 hx0 (f := f) (t := t) (prot := prot) (i := i) hw (hlen _) (turnT G (Q.getD i 0)).length 0 F Q x12 H (by omega) hP hB hlt rfl (fun j u hj => by omega)
        obtain ⟨i3, L3, e1, e2⟩ := rd_at T34 z2.q.rd (nl_at z4)
        rw [z5] at e2
        by_cases hf : Q.getD i 0 = f
        · refine ⟨F1, H1, ?_, z2.far, z3.stop z4 (by rw [z5, hf]), z2.st⟩
          obtain ⟨_, _, hre⟩ := d2.len
          obtain ⟨_, _, rfl⟩ := hx0
          obtain ⟨_, _, rfl⟩ := c1.len
          obtain ⟨_, _, rfl⟩ := hP.far.len
          obtain ⟨_, _, rfl⟩ := hP.q.len
          obtain ⟨_, _, rfl⟩ := z2.q.len
          rw [hre] at b2 z1
          exact lp_last (f21_L0_0 (by omega) a1 a2 b1 b2 z1 e1 e2 (by rw [beq_iff_eq]; omega))
        · have hnx := z3.next z4 (fun u hu => z6 u (turn_mem.2 ⟨?_, by rw [← z5]; exact hu⟩))
          · obtain ⟨F2, H2, w1, w2⟩ := loop21o h5 hlen hx0 (f := f) (t := t) (prot := prot) d (i + 1) F1 Q1 y H1 (by omega) z2 hnx
            refine ⟨F2, H2, ?_, w2⟩
            have hcnt1 := z3.cnt
            obtain ⟨_, _, hre⟩ := d2.len
            obtain ⟨_, _, rfl⟩ := hx0
            obtain ⟨_, _, rfl⟩ := c1.len
            obtain ⟨_, _, rfl⟩ := hP.far.len
            obtain ⟨_, _, rfl⟩ := hP.q.len
            obtain ⟨_, _, rfl⟩ := z2.q.len
            rw [hre] at b2 z1
            exact lp_next (f21_L0_1 (by omega) a1 a2 b1 b2 z1 e1 e2 (by rw [beq_eq_false_iff_ne]; omega) (fit64 (by omega) (by omega))) w1
          · rcases Nat.lt_or_ge u G.length with h | h
            · exact h
            · unfold sc at hu
              rw [List.getD_eq_getElem?_getD, List.getElem?_eq_none h] at hu
              simp at hu
    · refine ⟨F, H, ?_, hP.far, hB.done f (by omega), hP.st⟩
      obtain ⟨cs, c1, c2⟩ := hP.bk
      obtain ⟨_, _, rfl⟩ := hx0
      obtain ⟨_, _, rfl⟩ := c1.len
      obtain ⟨_, _, rfl⟩ := hP.far.len
      obtain ⟨_, _, rfl⟩ := hP.q.len
      exact lp_last (f21_L0_2 (by omega))
end Go.Proofs.Ytkemihfaohkoeaa.Am11
namespace Go.Proofs.Ytkemihfaohkoeaa.Am11
open Go Go.Proofs.Ytkemihfaohkoeaa.Am
theorem leastL_congr {p q : Nat → Bool} : ∀ (l : List Nat) (m : Nat), (∀ u ∈ l, p u = q u) → leastL p l m = leastL q l m
  | [], m, _ => rfl
  | u :: l, m, h => by
    rw [leastL, leastL, h u (by simp)]
    exact leastL_congr l _ (fun x hx => h x (by simp [hx]))
theorem loop21l {G : List (List Int)} (hG : Good G) {H0 H : AHeap} {x0 x10 x16 y : Value} (hx0 : ∃ a c, x0 = .slice a G.length c) {t v prot : Nat} (hv : v < G.length) {F : Nat → Nat} (hFb : ∀ u, F u ≤ 100000) (hf : Rd H 3 1 x10 G.length (il (nl (farL F G.length)))) (hy : Rd H 3 1 y G[v].length (il G[v])) (h16 : ∃ a n c, x16 = .slice a n c) : ∀ (d i m : Nat), i + d = G[v].length →
    lpInf (lpOf cfg a21 3 prot H0) ([x0, .int .i64 t, x10, x16, .int .i64 v, .int .i64 m, y, .int .i64 G[v].length, .int .i64 i], H) =
      some (.exit 6, [x0, .int .i64 t, x10, x16, .int .i64 (leastL (fun u => decide (F u + 1 = F v ∧ 0 < F u)) ((sc G v).drop i) m : Nat)], H)
  | 0, i, m, hi => by
    have hl := sc_len hv
    rw [List.drop_of_length_le (by omega)]
    obtain ⟨_, _, rfl⟩ := hx0
    obtain ⟨_, _, rfl⟩ := hf.len
    obtain ⟨_, _, rfl⟩ := hy.len
    obtain ⟨_, _, _, rfl⟩ := h16
    exact lp_last (f21_L3_3 (by omega))
  | d + 1, i, m, hi => by
    have hil : i < G[v].length := by omega
    have hl := sc_len hv
    have hsh := hG.2.1 _ (List.getElem_mem hv)
    obtain ⟨u, hue, hul, hsc⟩ := sc_get hG hv hil
    have hdrop : (sc G v).drop i = u :: (sc G v).drop (i + 1) := by
      rw [List.drop_eq_getElem_cons (by omega)]
      rw [List.getElem?_eq_getElem (by omega)] at hsc
      rw [Option.some.inj hsc]
    rw [hdrop, leastL]
    obtain ⟨i1, L1, a1, a2⟩ := rd_at T34 hy (il_get hil)
    rw [hue] at a2
    obtain ⟨i2, L2, b1, b2⟩ := rd_at T34 hf (farL_get hul)
    obtain ⟨i3, L3, c1, c2⟩ := rd_at T34 hf (farL_get hv)
    have fi : Fit .i64 ((i : Int) + 1) := fit64 (by omega) (by omega)
    have h1 := hFb u
    have h2 := hFb v
    have fv : Fit .i64 ((F v : Int) - 1) := fit64 (by omega) (by omega)
    by_cases e1 : F u + 1 = F v
    · have eb : (((F u : Nat) : Int) == (F v : Int) - 1) = true := by rw [beq_iff_eq]; omega
      by_cases e2 : 0 < F u
      · have ih := loop21l hG hx0 (H0 := H0) (t := t) (prot := prot) hv hFb hf hy h16 d (i + 1) (min u m) (by omega)
        rw [if_pos (decide_eq_true ⟨e1, e2⟩)]
        have em : (if (u : Int) < (m : Int) then (u : Int) else (m : Int)) = ((min u m : Nat) : Int) := by split <;> omega
        rw [← em] at ih
        obtain ⟨_, _, rfl⟩ := hx0
        obtain ⟨_, _, rfl⟩ := hf.len
        obtain ⟨_, _, rfl⟩ := hy.len
        obtain ⟨_, _, _, rfl⟩ := h16
        exact lp_next (f21_L3_0 (by omega) a1 a2 b1 b2 c1 c2 fv eb b1 b2 (by omega) fi) ih
      · have ih := loop21l hG hx0 (H0 := H0) (t := t) (prot := prot) hv hFb hf hy h16 d (i + 1) m (by omega)
        rw [if_neg (by simp; omega)]
        obtain ⟨_, _, rfl⟩ := hx0
        obtain ⟨_, _, rfl⟩ := hf.len
        obtain ⟨_, _, rfl⟩ := hy.len
        obtain ⟨_, _, _, rfl⟩ := h16
        exact lp_next (f21_L3_1 (by omega) a1 a2 b1 b2 c1 c2 fv eb b1 b2 (by omega) fi) ih
    · have eb : (((F u : Nat) : Int) == (F v : Int) - 1) = false := by rw [beq_eq_false_iff_ne]; omega
      have ih := loop21l hG hx0 (H0 := H0) (t := t) (prot := prot) hv hFb hf hy h16 d (i + 1) m (by omega)
      rw [if_neg (by simp; omega)]
      obtain ⟨_, _, rfl⟩ := hx0
      obtain ⟨_, _, rfl⟩ := hf.len
      obtain ⟨_, _, rfl⟩ := hy.len
      obtain ⟨_, _, _, rfl⟩ := h16
      exact lp_next (f21_L3_2 (by omega) a1 a2 b1 b2 c1 c2 fv eb fi) ih
theorem sc_lt {G : List (List Int)} (hG : Good G) {v u : Nat} (hu : u ∈ sc G v) : v < G.length ∧ u < G.length := by
  have hv : v < G.length := by
    rcases Nat.lt_or_ge v G.length with h | h
    · exact h
    · unfold sc at hu
      rw [List.getD_eq_getElem?_getD, List.getElem?_eq_none h] at hu
      simp at hu
  refine ⟨hv, ?_⟩
  unfold sc at hu
  rw [List.getD_eq_getElem?_getD, List.getElem?_eq_getElem hv, Option.getD_some] at hu
  obtain ⟨x, hx, rfl⟩ := List.mem_map.1 hu
  have := hG.2.2 v G[v] x (List.getElem?_eq_getElem hv) hx
  omega
theorem loop21p {G : List (List Int)} (hG : Good G) {H0 : AHeap} {x0 x10 : Value} (hg : Gr H0 x0 G) {t f prot o10 : Nat} {F : Nat → Nat} (hF : FarOK G t f F) (hFb : ∀ u, F u ≤ 100000) (hb : H0.length ≤ o10) : ∀ (k v : Nat) (pre : List Nat) (x16 : Value) (o16 : Nat) (H : AHeap), v < G.length → dt G t v = k + 1 → k + 1 ≤ dt G t f → Stay none H0 H → Own H 3 1 x10 (some o10) G.length (il (nl (farL F G.length))) → Own H 3 1 x16 (some o16) (pre.length + 1) (il (nl (pre ++ [v]))) → H0.length ≤ o16 → o16 ≠ o10 → pre.length + k ≤ 100000 →
    ∃ x' o' H', lpInf (lpOf cfg a21 2 prot H0) ([x0, .int .i64 t, x10, x16, .int .i64 v], H) = some (.exit 4, [x'], H') ∧ Own H' 3 1 x' (some o') (pre.length + (k + 1)) (il (nl (pre ++ pth G t k v))) ∧ H0.length ≤ o' ∧ Stay none H0 H'
  | 0, v, pre, x16, o16, H, hv, hd, hle, hst, hf, hx, ho, hne, hsz => by
    have hvt := dt_one hd
    refine ⟨x16, o16, H, ?_, hx, ho, hst⟩
    obtain ⟨_, _, rfl⟩ := hg.len
    obtain ⟨_, _, rfl⟩ := hf.len
    obtain ⟨_, _, rfl⟩ := hx.len
    exact lp_last (f21_L2_1 (by rw [hvt]; simp))
  | k + 1, v, pre, x16, o16, H, hv, hd, hle, hst, hf, hx, ho, hne, hsz => by
    have hnt : v ≠ t := fun e => by subst e; rw [dt_self] at hd; omega
    obtain ⟨n1, n2, n3, n4⟩ := nx_ok (v := v) (G := G) (fun u hu => (sc_lt hG hu).2) (t := t) (by omega)
    obtain ⟨id, L, y, a1, a2, a3⟩ := (hg.stay hst).row hv
    have hFv : F v = dt G t v := by
      have := hF.near v (by omega) (by omega)
      exact hF.ex v this
    have hl := loop21l hG hg.len (H0 := H0) (t := t) (prot := prot) hv hFb hf.rd a3 (x16 := x16) (by obtain ⟨a, c, e⟩ := hx.len; exact ⟨a, _, c, e⟩) G[v].length 0 G.length (by omega)
    rw [List.drop_zero] at hl
    have hnx : leastL (fun u => decide (F u + 1 = F v ∧ 0 < F u)) (sc G v) G.length = nx G t v := by
      unfold nx
      refine leastL_congr _ _ fun u hu => ?_
      rw [decide_eq_decide]
      constructor
      · rintro ⟨e1, e2⟩
        rw [hF.ex u e2] at e1
        exact ⟨by rw [← hFv]; exact e1, by rw [← hF.ex u e2]; exact e2⟩
      · rintro ⟨e1, e2⟩
        have := hF.near u e2 (by omega)
        rw [hF.ex u this, hFv]
        exact ⟨e1, e2⟩
    rw [hnx] at hl
    have hl0 := hst.1
    obtain ⟨a', c', o', H3, q1, q2, q3, q4, q5, q6⟩ := own_app T34 hx (ecs := [.int .i64 ((nx G t v : Nat) : Int)]) rfl rfl (prot := H0.length) (room := true) (fun id e => by cases e; exact ho) hl0 (by omega) (L := 1 * 1) rfl (el := [Value.int .i64 ((nx G t v : Nat) : Int)].length) rfl
    have e16 := q6 o16 rfl
    subst e16
    have hil : il (nl (pre ++ [v])) ++ [Value.int .i64 ((nx G t v : Nat) : Int)] = il (nl ((pre ++ [v]) ++ [nx G t v])) := by simp [il, nl]
    rw [hil] at q2
    have hf3 := hf.stay q3 (fun id e1 e2 => hne (by rw [← Option.some.inj e1] at e2; exact Option.some.inj e2))
    obtain ⟨x', o2, H', z1, z2, z3, z4⟩ := loop21p hG hg (prot := prot) hF hFb hb k (nx G t v) (pre ++ [v]) _ _ H3 n3 (by omega) (by omega) (hst.over q3 (fun id e => by cases e; exact ho)) hf3 (by rw [List.length_append, List.length_singleton]; exact q2) ho hne (by rw [List.length_append, List.length_singleton]; omega)
    rw [List.length_append, List.length_singleton, List.append_assoc] at z2
    refine ⟨x', o2, H', ?_, ?_, z3, z4⟩
    · obtain ⟨_, _, rfl⟩ := hg.len
      obtain ⟨_, _, rfl⟩ := hf.len
      obtain ⟨_, _, rfl⟩ := hx.len
      obtain ⟨_, _, rfl⟩ := a3.len
      exact lp_next (f21_L2_0 (by rw [bne_iff_ne]; omega) a1 a2 hl q1) z1
    · rw [show pre.length + (k + 1 + 1) = pre.length + 1 + (k + 1) by omega]
      exact z2

theorem slot0 (S : Nat → Bool) (H : AHeap) {prot : Nat} (hp : prot ≤ H.length) : ∃ HA H', aalloc cfg.P 39 H = some (.pointer (some ⟨H.length, 0, some 8⟩), HA) ∧ setCells HA prot H.length 8 0 (setA S).toList = some H' ∧ H'[H.length]? = some (.cells (setL S) 39 8 .var) ∧ Stay none H H' ∧ H'.length = H.length + 1 := slot S H hp
/-- What Path answers: of vertices. -/
theorem c21 {G : List (List Int)} (hG : Good G) (hE : lens G ≤ 1048576) {vG : Value} (prot : Nat) {H : AHeap} (hg : Gr H vG G) (hck : chk G = 0) {f t : Nat} (hf : f < G.length) (ht : t < G.length) :
    (dt G t f = 0 ∧ callInf cfg 21 [vG, .int .i64 f, .int .i64 t] prot H = some (.tuple #[.slice none 0 0, .bool false, .int .i64 0], H)) ∨
    (0 < dt G t f ∧ dt G t f ≤ G.length ∧ ∃ x' H', callInf cfg 21 [vG, .int .i64 f, .int .i64 t] prot H = some (.tuple #[x', .bool true, .int .i64 0], H') ∧ OwnE H' 3 x' (dt G t f) (il (nl (pth G t (dt G t f - 1) f))) H.length ∧ Stay none H H') := by
  have h5 := hG.1
  have h0 : 0 < G.length := by omega
  have h25 := c25 hG.2.1 H.length hg
  rw [hck] at h25
  have hT : ∀ j, (turnT G j).length ≤ 1048576 := fun j => by
    have := turn_len0 (G := G) j
    omega
  obtain ⟨HA, hHA⟩ : ∃ HA, HA = H ++ [AObj.cells (repCells [.int .i64 0] G.length) 3 (repCells [.int .i64 0] G.length).length .row] := ⟨_, rfl⟩
  have lA : HA.length = H.length + 1 := by rw [hHA, List.length_append, List.length_singleton]
  have sA : Stay none H HA := by rw [hHA]; exact Stay.app none H _
  have m : Own HA 3 1 (.slice (some ⟨H.length, 0, some (G.length * 1)⟩) G.length G.length) (some H.length) G.length (il (nl (farL (fun _ => 0) G.length))) := by
    rw [hHA]
    have := own_mk (e := 3) h0 H (.int .i64 0)
    have e1 : il (nl (farL (fun _ => 0) G.length)) = List.replicate G.length (.int .i64 0) := by
      unfold il nl farL
      rw [List.map_const', List.length_range, List.map_replicate, List.map_replicate]
      rfl
    rw [e1]
    exact this
  obtain ⟨id, HB, e, s1, s2, s3, s4, s5⟩ := own_setS T34 m (i := t) (j := 0) ht (vs := [.int .i64 ((1 : Nat) : Int)]) (by simp) rfl (prot := H.length) (fun id e => by cases e; exact Nat.le_refl _)
  cases e
  rw [put_il _ (by rw [farL_len]; exact ht), farL_set 1 ht] at s3
  have sB : Stay none H HB := sA.over s4 (fun id e => by cases e; exact Nat.le_refl _)
  obtain ⟨x11, HC, w1, w2, w3⟩ := c33 hG hE H.length (hg.stay sB)
  obtain ⟨r, o, o3, hO⟩ : ∃ r o o3, Out HB.length HC x11 G.length r o o3 (turnT G) := by
    rcases w2.ex with h | ⟨h, _⟩
    · exact h
    · omega
  obtain ⟨HD, hHD⟩ : ∃ HD, HD = HC ++ [wo [.int .i64 (t : Int)] 3] := ⟨_, rfl⟩
  have sD : Stay none HC HD := by rw [hHD]; exact Stay.app none HC _
  have lD : HC.length < HD.length := by rw [hHD, List.length_append, List.length_singleton]; omega
  have hq : Own HD 3 1 (.slice (some ⟨HC.length, 0, some (1 * 1)⟩) 1 1) (some HC.length) [t].length (il (nl [t])) := by
    rw [hHD]
    exact own_new (e := 3) (s := 1) (n := 1) (cs := [.int .i64 (t : Int)]) rfl (by omega) rfl rfl
  have hlB : HB.length = H.length + 1 := by rw [s5, lA]
  have hlC := w3.1
  have hP : PS H HD G.length (.slice (some ⟨H.length, 0, some (G.length * 1)⟩) G.length G.length) x11 (.slice (some ⟨HC.length, 0, some (1 * 1)⟩) 1 1) H.length HC.length r (setF (fun _ => 0) t 1) [t] (turnT G) := by
    refine ⟨(sB.trans w3).trans sD, (s3.stay w3 (fun _ _ e => by cases e)).stay sD (fun _ _ e => by cases e), hq, Nat.le_refl _, by omega, by omega, ⟨_, hO.x3.rd.stay sD, fun j hj => ⟨range_at r hj, (hO.rx j hj).rd.stay sD⟩⟩, fun j hj id off L n c e => ?_⟩
    have h1 := hO.rx j hj
    cases hoj : o j with
    | none =>
      rw [hoj] at h1
      rcases h1.2.2 with h2 | h2
      · rw [h2] at e; cases e
      · rw [h2] at e; cases e
    | some a =>
      rw [hoj] at h1
      have h2 := hO.bo j hj a hoj
      have h3 := own_lt h1
      have h4 := h1.2.2.1
      rw [h4] at e
      cases e
      omega
  obtain ⟨F, HE, z1, z2, z3, z4⟩ := loop21o h5 hT hg.len (f := f) (t := t) (prot := prot) (G.length + 1) 0 _ _ _ HD (by omega) hP (BI.start ht)
  have hbd := z3.bd
  have hFb : ∀ u, F u ≤ 100000 ∨ True := fun u => .inr trivial
  obtain ⟨i1, L1, p1, p2⟩ := rd_at T34 z2.rd (farL_get hf)
  have e21 : ((0 : Int) != 0) = false := by decide
  rw [show t * 1 = t from Nat.mul_one t] at s1
  rw [show t * 1 + 0 = t from Nat.mul_one t] at s2
  subst hHA
  rcases Nat.eq_zero_or_pos (dt G t f) with hd | hd
  · refine .inl ⟨hd, ?_⟩
    subst hHD
    obtain ⟨_, _, rfl⟩ := hg.len
    obtain ⟨_, _, rfl⟩ := hO.x3.len
    exact f21_F_5 h25 e21 (by omega) (by omega) (by omega) (by omega) (by omega) rfl (by omega) (by omega) s1 rfl s2 w1 z1 p1 p2 (by rw [z3.ff, hd]; rfl)
  · refine .inr ⟨hd, by rw [← z3.ff]; exact z3.bd, ?_⟩
    obtain ⟨HG, hHG⟩ : ∃ HG, HG = HE ++ [wo [.int .i64 (f : Int)] 3] := ⟨_, rfl⟩
    have sG : Stay none HE HG := by rw [hHG]; exact Stay.app none HE _
    have hx16 : Own HG 3 1 (.slice (some ⟨HE.length, 0, some (1 * 1)⟩) 1 1) (some HE.length) (([] : List Nat).length + 1) (il (nl ([] ++ [f]))) := by
      rw [hHG]
      exact own_new (e := 3) (s := 1) (n := 1) (cs := [.int .i64 (f : Int)]) rfl (by omega) rfl rfl
    have hlE := z4.1
    have lE2 : H.length < HE.length := own_lt z2
    have hFb2 : ∀ u, F u ≤ 100000 := fun u => by
      have := z3.all u
      omega
    obtain ⟨x', o', HF, y1, y2, y3, y4⟩ := loop21p hG hg (prot := prot) z3 hFb2 (Nat.le_refl _) (dt G t f - 1) f [] _ HE.length HG hf (by omega) (by omega) (z4.trans sG) (z2.stay sG (fun _ _ e => by cases e)) hx16 (by omega) (by omega) (by rw [z3.ff] at hbd; simp; omega)
    rw [List.length_nil, Nat.zero_add, List.nil_append, show dt G t f - 1 + 1 = dt G t f by omega] at y2
    obtain ⟨x2, H', g1, g2, g3⟩ := gcE (H := H) (.inl ⟨some o', y2, fun id e => by cases e; exact y3⟩) (il_plain _) (ps := [.bool true, .int .i64 0]) rfl
    refine ⟨x2, H', ?_, g2, g3⟩
    subst hHG; subst hHD
    obtain ⟨_, _, rfl⟩ := hg.len
    obtain ⟨_, _, rfl⟩ := hO.x3.len
    obtain ⟨_, _, rfl⟩ := y2.len
    exact f21_F_6 _ _ h25 e21 (by omega) (by omega) (by omega) (by omega) (by omega) rfl (by omega) (by omega) s1 rfl s2 w1 z1 p1 p2 (by rw [z3.ff, beq_eq_false_iff_ne]; omega) y1 (by rw [pfin_eq, if_neg (by simp [a21])]; exact g1)
end Go.Proofs.Ytkemihfaohkoeaa.Am11
set_option linter.unusedVariables false
open Go Go.Proofs.Ytkemihfaohkoeaa.Am
namespace Go.Proofs.Ytkemihfaohkoeaa.Am11
theorem f17_F_0 {x0a : Option Addr} {x0n x0c : Nat} {H : AHeap} {prot : Nat} {z4a : Option Addr} {z4n z4c : Nat} {H1 : AHeap} (rv : Value) (rH : AHeap) (h1 : lpInf (lpOf cfg a17 0 prot H) ([Value.slice x0a x0n x0c, Value.int .i64 (if 512 < (↑x0n : Int) then 512 else (↑x0n : Int)), Value.slice none 0 0, Value.int .i64 0], H) = some (Ex.exit 0, [Value.slice z4a z4n z4c], H1)) (h2 : pfin a17 H [Value.slice z4a z4n z4c] H1 = (rv, rH)) : callInf cfg 17 [.slice x0a x0n x0c] prot H = some (rv, rH) :=
  fn_of2 a17 [.e, .e, .lo (.exit 0, [.slice z4a z4n z4c], H1)] (ai h1 h2) (by kernel_rfl) rfl
theorem f17_L0_0 {x0a : Option Addr} {x0n x0c : Nat} {x3 : Int} {x4a : Option Addr} {x4n x4c : Nat} {x5 : Int} {H0 : AHeap} {prot : Nat} {H : AHeap} {z0a : Option Addr} {z0n z0c : Nat} {z3 : Int} {z4a : Option Addr} {z4n z4c : Nat} {z5 : Int} {z6a : Option Addr} {z6n z6c : Nat} {H2 : AHeap} {x44a : Option Addr} {x44n x44c : Nat} {H3 : AHeap} (h1 : x5 < x3) (h2 : lpInf (lpOf cfg a17 1 prot H0) ([Value.slice x0a x0n x0c, Value.int .i64 x3, Value.slice x4a x4n x4c, Value.int .i64 x5, Value.slice none 0 0, Value.int .i64 0], H) = some (Ex.exit 2, [Value.slice z0a z0n z0c, Value.int .i64 z3, Value.slice z4a z4n z4c, Value.int .i64 z5, Value.slice z6a z6n z6c], H2)) (h3 : aappend cfg.P (List.length H0) true 22 22 (Value.slice z4a z4n z4c) (Value.slice (some ⟨List.length H2, 0, some (1 * 1)⟩) 1 1) (H2 ++ [wo [Value.slice z6a z6n z6c] 34]) = some (Value.slice x44a x44n x44c, H3)) (h4 : Fit .i64 (z5 + 1)) : lpOf cfg a17 0 prot H0 ([.slice x0a x0n x0c, .int .i64 x3, .slice x4a x4n x4c, .int .i64 x5], H) = some (Sum.inl ([Value.slice z0a z0n z0c, Value.int .i64 z3, Value.slice x44a x44n x44c, Value.int .i64 (z5 + 1)], H3)) :=
  lp_of2 [.e, .b true, .lo (.exit 2, [.slice z0a z0n z0c, .int .i64 z3, .slice z4a z4n z4c, .int .i64 z5, .slice z6a z6n z6c], H2), .e, .r (.slice x44a x44n x44c) H3, .e] (ai (decide_eq_true h1) (ai h2 (ai h3 (ai h4 (Eq.refl (Sum.inl ([Value.slice z0a z0n z0c, Value.int .i64 z3, Value.slice x44a x44n x44c, Value.int .i64 (z5 + 1)], H3) : LS ⊕ LO)))))) (by kernel_rfl)
theorem f17_L0_1 {x0a : Option Addr} {x0n x0c : Nat} {x3 : Int} {x4a : Option Addr} {x4n x4c : Nat} {x5 : Int} {H0 : AHeap} {prot : Nat} {H : AHeap} (h1 : ¬(x5 < x3)) : lpOf cfg a17 0 prot H0 ([.slice x0a x0n x0c, .int .i64 x3, .slice x4a x4n x4c, .int .i64 x5], H) = some (Sum.inr (Ex.exit 0, [Value.slice x4a x4n x4c], H)) :=
  lp_of2 [.e, .b false] (ai (decide_eq_false h1) (Eq.refl (Sum.inr (Ex.exit 0, [Value.slice x4a x4n x4c], H) : LS ⊕ LO))) (by kernel_rfl)
theorem f17_L1_0 {x0a : Option Addr} {x0n x0c : Nat} {x3 : Int} {x4a : Option Addr} {x4n x4c : Nat} {x5 : Int} {x6a : Option Addr} {x6n x6c : Nat} {x7 : Int} {H0 : AHeap} {prot : Nat} {H : AHeap} {x19p x19o x19l : Nat} {x20a : Option Addr} {x20n x20c x28p x28o x28l : Nat} {x29a : Option Addr} {x29n x29c x31p x31o x31l : Nat} {x32 : Int} {x40a : Option Addr} {x40n x40c : Nat} {H2 : AHeap} (h1 : aindexAddr cfg.P 22 (Value.slice x0a x0n x0c) (Value.int .i64 x5) = some (Value.pointer (some ⟨x19p, x19o, some x19l⟩))) (h2 : getCells H x19p x19l x19o 1 = some [Value.slice x20a x20n x20c]) (h3 : x7 < (↑x20n : Int)) (h4 : aindexAddr cfg.P 22 (Value.slice x0a x0n x0c) (Value.int .i64 x5) = some (Value.pointer (some ⟨x28p, x28o, some x28l⟩))) (h5 : getCells H x28p x28l x28o 1 = some [Value.slice x29a x29n x29c]) (h6 : aindexAddr cfg.P 34 (Value.slice x29a x29n x29c) (Value.int .i64 x7) = some (Value.pointer (some ⟨x31p, x31o, some x31l⟩))) (h7 : getCells H x31p x31l x31o 1 = some [Value.int .i64 x32]) (h8 : x3 ≠ 0) (h9 : Fit .i64 (x32.tmod x3 + x3)) (h10 : aappend cfg.P (List.length H0) true 34 34 (Value.slice x6a x6n x6c) (Value.slice (some ⟨List.length H, 0, some (1 * 1)⟩) 1 1) (H ++ [wo [Value.int .i64 ((x32.tmod x3 + x3).tmod x3)] 3]) = some (Value.slice x40a x40n x40c, H2)) (h11 : Fit .i64 (x7 + 1)) : lpOf cfg a17 1 prot H0 ([.slice x0a x0n x0c, .int .i64 x3, .slice x4a x4n x4c, .int .i64 x5, .slice x6a x6n x6c, .int .i64 x7], H) = some (Sum.inl ([Value.slice x0a x0n x0c, Value.int .i64 x3, Value.slice x4a x4n x4c, Value.int .i64 x5, Value.slice x40a x40n x40c, Value.int .i64 (x7 + 1)], H2)) :=
  lp_of2 [.v (.pointer (some ⟨x19p, x19o, some x19l⟩)), .v (.slice x20a x20n x20c), .e, .e, .b true, .v (.pointer (some ⟨x28p, x28o, some x28l⟩)), .v (.slice x29a x29n x29c), .v (.pointer (some ⟨x31p, x31o, some x31l⟩)), .v (.int .i64 x32), .e, .e, .e, .e, .r (.slice x40a x40n x40c) H2, .e] (ai h1 (ai h2 (ai (decide_eq_true h3) (ai h4 (ai h5 (ai h6 (ai h7 (ai h8 (ai h9 (ai h8 (ai h10 (ai h11 (Eq.refl (Sum.inl ([Value.slice x0a x0n x0c, Value.int .i64 x3, Value.slice x4a x4n x4c, Value.int .i64 x5, Value.slice x40a x40n x40c, Value.int .i64 (x7 + 1)], H2) : LS ⊕ LO)))))))))))))) (by kernel_rfl)
theorem f17_L1_1 {x0a : Option Addr} {x0n x0c : Nat} {x3 : Int} {x4a : Option Addr} {x4n x4c : Nat} {x5 : Int} {x6a : Option Addr} {x6n x6c : Nat} {x7 : Int} {H0 : AHeap} {prot : Nat} {H : AHeap} {x19p x19o x19l : Nat} {x20a : Option Addr} {x20n x20c : Nat} (h1 : aindexAddr cfg.P 22 (Value.slice x0a x0n x0c) (Value.int .i64 x5) = some (Value.pointer (some ⟨x19p, x19o, some x19l⟩))) (h2 : getCells H x19p x19l x19o 1 = some [Value.slice x20a x20n x20c]) (h3 : ¬(x7 < (↑x20n : Int))) : lpOf cfg a17 1 prot H0 ([.slice x0a x0n x0c, .int .i64 x3, .slice x4a x4n x4c, .int .i64 x5, .slice x6a x6n x6c, .int .i64 x7], H) = some (Sum.inr (Ex.exit 2, [Value.slice x0a x0n x0c, Value.int .i64 x3, Value.slice x4a x4n x4c, Value.int .i64 x5, Value.slice x6a x6n x6c], H)) :=
  lp_of2 [.v (.pointer (some ⟨x19p, x19o, some x19l⟩)), .v (.slice x20a x20n x20c), .e, .e, .b false] (ai h1 (ai h2 (ai (decide_eq_false h3) (Eq.refl (Sum.inr (Ex.exit 2, [Value.slice x0a x0n x0c, Value.int .i64 x3, Value.slice x4a x4n x4c, Value.int .i64 x5, Value.slice x6a x6n x6c], H) : LS ⊕ LO))))) (by kernel_rfl)
end Go.Proofs.Ytkemihfaohkoeaa.Am11
namespace Go.Proofs.Ytkemihfaohkoeaa.Am11
open Go Go.Proofs.Ytkemihfaohkoeaa.Am
/-- Lists leave room for two more. -/
def Short8 (G : List (List Int)) : Prop := G.length * 24 + 48 ≤ 140737488355328 ∧ ∀ l ∈ G, l.length * 8 + 16 ≤ 140737488355328
def wrapI (n : Nat) (x : Int) : Int := (x.tmod n + n).tmod n
theorem wrapI_range {n : Nat} (hn : 0 < n) (x : Int) : 0 ≤ wrapI n x ∧ wrapI n x < n := by
  unfold wrapI
  have h1 : -(n : Int) < x.tmod n := Int.lt_tmod_of_pos x (by omega)
  exact ⟨Int.tmod_nonneg _ (by omega), Int.tmod_lt_of_pos _ (by omega)⟩
/-- A graph out of any lists. -/
def wit (G : List (List Int)) : List (List Int) := (G.take 512).map fun l => l.map (wrapI (min 512 G.length))
theorem wit_len (G : List (List Int)) : (wit G).length = min 512 G.length := by unfold wit; rw [List.length_map, List.length_take]
theorem loop17i {G : List (List Int)} {n : Nat} (hn : 0 < n) (hn5 : n ≤ 512) {H0 G0 : AHeap} (hG0 : H0.length ≤ G0.length) {x0 x4 : Value} (hg : Gr G0 x0 G) {prot v : Nat} (hv : v < G.length) (hl : G[v].length * 8 + 16 ≤ 140737488355328) (hx4 : ∃ a m c, x4 = .slice a m c) : ∀ (d i : Nat) (x6 : Value) (o6 : Option Nat) (H : AHeap), i + d = G[v].length → Stay none G0 H → Own H 3 1 x6 o6 i (il ((G[v].take i).map (wrapI n))) → (∀ id, o6 = some id → G0.length ≤ id) →
    ∃ x' o' H', lpInf (lpOf cfg a17 1 prot H0) ([x0, .int .i64 n, x4, .int .i64 v, x6, .int .i64 i], H) = some (.exit 2, [x0, .int .i64 n, x4, .int .i64 v, x'], H') ∧ Own H' 3 1 x' o' G[v].length (il (G[v].map (wrapI n))) ∧ (∀ id, o' = some id → G0.length ≤ id) ∧ Stay none G0 H'
  | 0, i, x6, o6, H, hi, hst, hx, ho => by
    obtain ⟨id, L, r, p, q, hr⟩ := (hg.stay hst).row hv
    have he : i = G[v].length := by omega
    have hx0 := hx
    subst he
    rw [List.take_length] at hx0
    refine ⟨x6, o6, H, ?_, hx0, ho, hst⟩
    obtain ⟨_, _, rfl⟩ := hg.len
    obtain ⟨_, _, _, rfl⟩ := hx4
    obtain ⟨_, _, rfl⟩ := hr.len
    obtain ⟨_, _, rfl⟩ := hx.len
    exact lp_last (f17_L1_1 p q (by omega))
  | d + 1, i, x6, o6, H, hi, hst, hx, ho => by
    have hil : i < G[v].length := by omega
    obtain ⟨id, L, r, p, q, hr⟩ := (hg.stay hst).row hv
    obtain ⟨id2, L2, p2, q2⟩ := rd_at T34 hr (il_get hil)
    have hl1 := hst.1
    obtain ⟨a', c', o', H2, s1, s2, s3, s4, s5, s6⟩ := own_app T34 hx (ecs := [.int .i64 (wrapI n G[v][i])]) rfl rfl (prot := H0.length) (room := true) (fun id h => by have := ho id h; omega) (by omega) (by omega) (L := 1 * 1) rfl (el := [Value.int .i64 (wrapI n G[v][i])].length) rfl
    have e1 : il ((G[v].take i).map (wrapI n)) ++ [.int .i64 (wrapI n G[v][i])] = il ((G[v].take (i + 1)).map (wrapI n)) := by
      rw [List.take_add_one, List.getElem?_eq_getElem hil, List.map_append]
      unfold il
      rw [List.map_append]
      rfl
    rw [e1] at s2
    have ho' : G0.length ≤ o' := by
      cases hh : o6 with
      | none => have := s5 hh; omega
      | some j => have := s6 j hh; have := ho j hh; omega
    obtain ⟨x', o2, H', z1, z2, z3, z4⟩ := loop17i hn hn5 hG0 hg (prot := prot) hv hl hx4 d (i + 1) _ (some o') H2 (by omega) (hst.over s3 ho) s2 (fun id h => by cases h; exact ho')
    refine ⟨x', o2, H', ?_, z2, z3, z4⟩
    have m1 : -(n : Int) < G[v][i].tmod n := Int.lt_tmod_of_pos _ (by omega)
    have m2 := Int.tmod_lt_of_pos G[v][i] (show (0 : Int) < n by omega)
    obtain ⟨_, _, rfl⟩ := hg.len
    obtain ⟨_, _, _, rfl⟩ := hx4
    obtain ⟨_, _, rfl⟩ := hr.len
    obtain ⟨_, _, rfl⟩ := hx.len
    exact lp_next (f17_L1_0 p q (by omega) p q p2 q2 (by omega) (fit64 (by omega) (by omega)) s1 (fit64 (by omega) (by omega))) z1

theorem loop17o {G : List (List Int)} {n : Nat} (hn : n = min 512 G.length) {H0 : AHeap} {x0 : Value} (hg : Gr H0 x0 G) (hs : Short8 G) {prot : Nat} : ∀ (d v : Nat) (x4 : Value) (o4 : Option Nat) (cs : List Value) (H : AHeap), v + d = n → Stay none H0 H → Own H 34 1 x4 o4 v cs → (∀ id, o4 = some id → H0.length ≤ id) →
    (∀ (j : Nat) (l : List Int), j < v → G[j]? = some l → ∃ r, cs[j]? = some r ∧ Rd H 3 1 r l.length (il (l.map (wrapI n))) ∧ ∀ id off L m c, r = .slice (some ⟨id, off, some L⟩) m c → o4 ≠ some id) →
    ∃ x' o' cs' H', lpInf (lpOf cfg a17 0 prot H0) ([x0, .int .i64 n, x4, .int .i64 v], H) = some (.exit 0, [x'], H') ∧ Stay none H0 H' ∧ Own H' 34 1 x' o' n cs' ∧ (∀ id, o' = some id → H0.length ≤ id) ∧
      (∀ (j : Nat) (l : List Int), j < n → G[j]? = some l → ∃ r, cs'[j]? = some r ∧ Rd H' 3 1 r l.length (il (l.map (wrapI n))))
  | 0, v, x4, o4, cs, H, hv, hst, hx, ho, hr => by
    have he : v = n := by omega
    subst he
    refine ⟨x4, o4, cs, H, ?_, hst, hx, ho, fun j l hj hl => by obtain ⟨r, a, b, _⟩ := hr j l hj hl; exact ⟨r, a, b⟩⟩
    obtain ⟨_, _, rfl⟩ := hg.len
    obtain ⟨_, _, rfl⟩ := hx.len
    exact lp_last (f17_L0_1 (by omega))
  | d + 1, v, x4, o4, cs, H, hv, hst, hx, ho, hr => by
    have hvG : v < G.length := by omega
    have hlv := hs.2 _ (List.getElem_mem hvG)
    have hl1 := hst.1
    obtain ⟨x6, o6, H2, u1, u2, u3, u4⟩ := loop17i (n := n) (by omega) (by omega) hl1 (hg.stay hst) (prot := prot) hvG hlv (by obtain ⟨a, c, h⟩ := hx.len; exact ⟨a, _, c, h⟩) G[v].length 0 (.slice none 0 0) none H (by omega) (Stay.refl _ _) own_nil (fun id h => by cases h)
    have hx2 := hx.stay u4 (fun _ _ h => by cases h)
    have l2 := u4.1
    have h6 := u2.len
    have hcell : [x6].all isCell = true := by obtain ⟨_, _, rfl⟩ := h6; rfl
    have hsl := hs.1
    obtain ⟨a', c', o', H3, s1, s2, s3, s4, s5, s6⟩ := own_app T22 hx2 (ecs := [x6]) rfl hcell (prot := H0.length) (room := true) ho (by omega) (by omega) (L := 1 * 1) rfl (el := [x6].length) rfl
    have hol : ∀ id, o4 = some id → id < H.length := fun id h => by
      rw [h] at hx
      exact (List.getElem?_eq_some_iff.1 hx.2.2.2.choose_spec.2).1
    have hx6l : ∀ id off L m c, x6 = .slice (some ⟨id, off, some L⟩) m c → H.length ≤ id ∧ id < H2.length := fun id off L m c e => by
      have h1 := u2.rd.low id off L m c e
      refine ⟨?_, h1⟩
      cases ho6 : o6 with
      | none =>
        rw [ho6] at u2
        rcases u2.2.2 with h | h
        · rw [h] at e; cases e
        · rw [h] at e; cases e
      | some k =>
        rw [ho6] at u2
        have h2 := u2.2.2.1
        rw [h2] at e
        have := u3 k ho6
        cases e
        exact this
    have hcl : cs.length = v := by have := hx.1; omega
    obtain ⟨x', o2, cs', H', z1, z2, z3, z4, z5⟩ := loop17o hn hg hs (prot := prot) d (v + 1) _ (some o') (cs ++ [x6]) H3 (by omega) ((hst.trans u4).over s3 ho) s2 (fun id h => by cases h; exact s4) (fun j l hj hl => by
      by_cases he : j = v
      · subst he
        rw [List.getElem?_eq_getElem hvG] at hl
        cases hl
        refine ⟨x6, by rw [List.getElem?_append_right (by omega), hcl, Nat.sub_self]; rfl, u2.rd.stayNe s3 (fun id off L m c e h => by have := hx6l id off L m c e; have := hol id h; omega), fun id off L m c e h => ?_⟩
        have h := Option.some.inj h
        have := hx6l id off L m c e
        cases hh : o4 with
        | none => have := s5 hh; omega
        | some k => have := s6 k hh; have := hol k hh; omega
      · obtain ⟨r, r1, r2, r3⟩ := hr j l (by omega) hl
        refine ⟨r, by rw [List.getElem?_append_left (by omega)]; exact r1, (r2.stay u4).stayNe s3 r3, fun id off L m c e h => ?_⟩
        have h := Option.some.inj h
        have hlow := r2.low id off L m c e
        cases hh : o4 with
        | none => have := s5 hh; omega
        | some k => have := s6 k hh; exact r3 id off L m c e (by rw [hh, ← this, h]))
    refine ⟨x', o2, cs', H', ?_, z2, z3, z4, z5⟩
    obtain ⟨_, _, rfl⟩ := hg.len
    obtain ⟨_, _, rfl⟩ := hx.len
    obtain ⟨_, _, rfl⟩ := h6
    exact lp_next (f17_L0_0 (by omega) u1 s1 (fit64 (by omega) (by omega))) z1

theorem c17 {G : List (List Int)} (hs : Short8 G) {x0 : Value} (prot : Nat) {H : AHeap} (hg : Gr H x0 G) : ∃ x' H', callInf cfg 17 [x0] prot H = some (x', H') ∧ Gr H' x' (wit G) ∧ Stay none H H' := by
  obtain ⟨n, hn⟩ : ∃ n, n = min 512 G.length := ⟨_, rfl⟩
  obtain ⟨x', o', cs', H', z1, z2, z3, z4, z5⟩ := loop17o hn hg hs (prot := prot) n 0 (.slice none 0 0) none [] H (by omega) (Stay.refl _ _) own_nil (fun id h => by cases h) (fun j l hj => by omega)
  have hmin : (if (512 : Int) < (G.length : Int) then 512 else (G.length : Int)) = (n : Int) := by
    split <;> omega
  have hgr : ∀ Hx, (∀ e m c cs, Rd H' e 1 x' m cs → Rd Hx e 1 x' m cs) → (∀ r m cs, Rd H' 3 1 r m cs → Rd Hx 3 1 r m cs) → Gr Hx x' (wit G) := fun Hx h1 h2 => by
    refine ⟨cs', by rw [wit_len, ← hn]; exact h1 _ _ 0 _ z3.rd, fun i l hl => ?_⟩
    unfold wit at hl
    rw [List.getElem?_map, Option.map_eq_some_iff] at hl
    obtain ⟨l0, hl0, rfl⟩ := hl
    have hi : i < (G.take 512).length := (List.getElem?_eq_some_iff.1 hl0).1
    rw [List.length_take] at hi
    rw [List.getElem?_take_of_lt (by omega)] at hl0
    obtain ⟨r, a, b⟩ := z5 i l0 (by omega) hl0
    rw [← hn]
    exact ⟨r, a, by rw [List.length_map]; exact h2 _ _ _ b⟩
  obtain ⟨aG, cG, rfl⟩ := hg.len
  rw [← hmin] at z1
  have hz3 := z3
  obtain ⟨ax, cx, hxe⟩ := z3.len
  cases ho : o' with
  | none =>
    rw [ho] at hz3
    have h0 : n = 0 := hz3.2.1
    have hG0 : G = [] := List.eq_nil_of_length_eq_zero (by omega)
    have hpf : pfin a17 H [x'] H' = (x', H) := by
      rw [pfin_eq, if_neg (by simp [a17])]
      rcases hz3.2.2 with hx | hx
      · rw [hx]; exact gc_plain rfl
      · rw [hx]; rfl
    refine ⟨x', H, ?_, ⟨[], ?_, fun i l hl => ?_⟩, Stay.refl _ _⟩
    · rw [hxe] at z1 hpf ⊢; exact f17_F_0 _ _ z1 hpf
    · subst hG0; exact ⟨rfl, .inl ⟨rfl, hz3.2.2⟩⟩
    · subst hG0; simp [wit] at hl
  | some id =>
    rw [ho] at hz3
    have hpos : 0 < n := hz3.2.1
    obtain ⟨l, hl⟩ : ∃ l, G[0]? = some l := ⟨_, List.getElem?_eq_getElem (by omega)⟩
    by_cases hnp : cs'.all plain0 = true
    · -- all rows are nil
      obtain ⟨x2, o2, H2, g1, g2, g3, g4, _⟩ := gc_row (H := H) (ps := []) z3 z4 hnp rfl
      have hpf : pfin a17 H [x'] H' = (x2, H2) := by
        rw [pfin_eq, if_neg (by simp [a17])]; exact g1
      refine ⟨x2, H2, ?_, ⟨cs', by rw [wit_len, ← hn]; exact g2.rd, fun i l hl => ?_⟩, g3⟩
      · rw [hxe] at z1 hpf; exact f17_F_0 _ _ z1 hpf
      · unfold wit at hl
        rw [List.getElem?_map, Option.map_eq_some_iff] at hl
        obtain ⟨l0, hl0, rfl⟩ := hl
        have hi : i < (G.take 512).length := (List.getElem?_eq_some_iff.1 hl0).1
        rw [List.length_take] at hi
        rw [List.getElem?_take_of_lt (by omega)] at hl0
        obtain ⟨r, a, b⟩ := z5 i l0 (by omega) hl0
        have hrp := List.all_eq_true.1 hnp r (List.mem_of_getElem? a)
        rw [← hn]
        refine ⟨r, a, ?_⟩
        rw [List.length_map]
        rcases b.2 with h | ⟨id, L, wr, md, c, all, h, _⟩
        · exact ⟨b.1, .inl h⟩
        · rw [h] at hrp; simp [plain0] at hrp
    · have hnp : cs'.all plain0 = false := by simpa using hnp
      have hpf : pfin a17 H [x'] H' = (x', H') := by
        rw [pfin_eq, if_neg (by simp [a17])]; exact gc_not hz3 hnp
      refine ⟨x', H', ?_, hgr H' (fun _ _ _ _ h => h) (fun _ _ _ h => h), z2⟩
      rw [hxe] at z1 hpf ⊢; exact f17_F_0 _ _ z1 hpf
end Go.Proofs.Ytkemihfaohkoeaa.Am11
set_option linter.unusedVariables false
open Go Go.Proofs.Ytkemihfaohkoeaa.Am
namespace Go.Proofs.Ytkemihfaohkoeaa.Am11
end Go.Proofs.Ytkemihfaohkoeaa.Am11
set_option linter.unusedVariables false
open Go Go.Proofs.Ytkemihfaohkoeaa.Am
namespace Go.Proofs.Ytkemihfaohkoeaa.Am11
theorem f13_F_0 {x0 : Int} {H : AHeap} {prot : Nat}  : callInf cfg 13 [.int .i64 x0] prot H = some (Value.int .i64 x0, H) :=
  fn_of2 a13 [] (Eq.refl ((Value.int .i64 x0, H) : Value × AHeap)) (by kernel_rfl) rfl
end Go.Proofs.Ytkemihfaohkoeaa.Am11
namespace Go.Proofs.Ytkemihfaohkoeaa.Am11
open Go Go.Proofs.Ytkemihfaohkoeaa.Am
theorem cKnows (prot : Nat) (H : AHeap) : callInf cfg 16 [] prot H = some (.bool true, H) := by
  refine callInf_body ?_
  unfold callWith
  have h : cfg.code 16 = some a16 := rfl
  rw [h]
  rfl
/-! ### Numbers of components -/
def Mu (G : List (List Int)) (u v : Nat) : Prop := Rch G u v ∧ Rch G v u
theorem Mu.symm {G : List (List Int)} {u v : Nat} (h : Mu G u v) : Mu G v u := ⟨h.2, h.1⟩
theorem Mu.trans {G : List (List Int)} {u v w : Nat} (h : Mu G u v) (k : Mu G v w) : Mu G u w := ⟨h.1.trans k.1, k.2.trans h.2⟩
/-- Numbers rise by one at most. -/
def pr : List Nat → Nat → Option Nat
  | [], m => some m
  | x :: l, m => if x ≤ m then pr l (max m (x + 1)) else none
structure NI (G : List (List Int)) (v : Nat) (out : List Nat) (n : Nat) : Prop where
  l : out.length = v
  b : ∀ i, i < v → out.getD i 0 < n
  e : ∀ u w, u < v → w < v → (out.getD u 0 = out.getD w 0 ↔ u = w ∨ Mu G u w)
  p : pr out 0 = some n
/-! ### The graph that is made -/
theorem wit_short {G : List (List Int)} (h : Short8 G) : Short (wit G) := fun l hl => by
  unfold wit at hl
  rw [List.mem_map] at hl
  obtain ⟨l0, h0, rfl⟩ := hl
  rw [List.length_map]
  have := h.2 l0 (List.mem_of_mem_take h0)
  omega
theorem wit_chk (G : List (List Int)) : chk (wit G) = 0 := by
  unfold chk
  rw [if_neg (by rw [wit_len]; omega), if_neg]
  rw [Bool.not_eq_true, List.any_eq_false]
  intro l hl
  unfold bad
  rw [Bool.not_eq_true, List.any_eq_false]
  intro x hx
  have hlen := wit_len G
  unfold wit at hl
  rw [List.mem_map] at hl
  obtain ⟨l0, h0, rfl⟩ := hl
  rw [List.mem_map] at hx
  obtain ⟨y, _, rfl⟩ := hx
  have hpos : 0 < min 512 G.length := by
    have : 0 < (G.take 512).length := List.length_pos_of_mem h0
    rw [List.length_take] at this
    exact this
  have := wrapI_range hpos y
  rw [hlen]
  simp
  omega
end Go.Proofs.Ytkemihfaohkoeaa.Am11
set_option linter.unusedVariables false
open Go Go.Proofs.Ytkemihfaohkoeaa.Am
namespace Go.Proofs.Ytkemihfaohkoeaa.Am11
theorem f5_F_0 {x0a : Option Addr} {x0n x0c : Nat} {x1 x2 : Int} {H : AHeap} {prot : Nat} {x20a : Option Addr} {x20n x20c : Nat} {H1 : AHeap} {x28 : Bool} (h1 : callInf cfg 17 [Value.slice x0a x0n x0c] (List.length H) H = some (Value.slice x20a x20n x20c, H1)) (h2 : ((↑x20n : Int) == 0) = true) (h3 : callInf cfg 16 [] (List.length H) H1 = some (Value.bool x28, H1)) : callInf cfg 5 [.slice x0a x0n x0c, .int .i64 x1, .int .i64 x2] prot H = some (Value.bool x28, H) :=
  fn_of2 a5 [.r (.slice x20a x20n x20c) H1, .e, .e, .b true, .b true, .b true, .b true, .v (.bool x28)] (ai h1 (ai h2 (ai h2 (ai h2 (ai (Eq.refl true) (ai h3 (Eq.refl ((Value.bool x28, H) : Value × AHeap)))))))) (by kernel_rfl) rfl
theorem f5_F_6 {x0a : Option Addr} {x0n x0c : Nat} {x1 x2 : Int} {H : AHeap} {prot : Nat} {x20a : Option Addr} {x20n x20c : Nat} {H1 : AHeap} {x25 : Bool} {x53aa : Option Addr} {x53an x53ac : Nat} {x53b : Bool} {x53c : Int} {H2 : AHeap} {x60a : Array Value} {x60b : Int} {x11p x11o x11l : Nat} {H3 H4 : AHeap} {x64 x66 : Int} {x71 : Array Value} {x73 : Bool} {x86p x86o x86l : Nat} {x87 : Int} {x96p x96o x96l : Nat} {x97 : Int} {z6 : Value} {H5 : AHeap} (h1 : callInf cfg 17 [Value.slice x0a x0n x0c] (List.length H) H = some (Value.slice x20a x20n x20c, H1)) (h2 : ((↑x20n : Int) == 0) = false) (h3 : callInf cfg 16 [] (List.length H) H1 = some (Value.bool x25, H1)) (h4 : (!x25) = false) (h5 : (↑x20n : Int) ≠ 0) (h6 : Fit .i64 (x1.tmod (↑x20n : Int) + (↑x20n : Int))) (h7 : Fit .i64 (x2.tmod (↑x20n : Int) + (↑x20n : Int))) (h8 : callInf cfg 21 [Value.slice x20a x20n x20c, Value.int .i64 ((x1.tmod (↑x20n : Int) + (↑x20n : Int)).tmod (↑x20n : Int)), Value.int .i64 ((x2.tmod (↑x20n : Int) + (↑x20n : Int)).tmod (↑x20n : Int))] (List.length H) H1 = some (Value.tuple { toList := [Value.slice x53aa x53an x53ac, Value.bool x53b, Value.int .i64 x53c] }, H2)) (h9 : callInf cfg 19 [Value.slice x20a x20n x20c, Value.int .i64 ((x1.tmod (↑x20n : Int) + (↑x20n : Int)).tmod (↑x20n : Int))] (List.length H) H2 = some (Value.tuple { toList := [Value.agg x60a, Value.int .i64 x60b] }, H2)) (h10 : aalloc cfg.P 39 H2 = some (Value.pointer (some ⟨x11p, x11o, some x11l⟩), H3)) (h11 : x60a.toList.length = 8) (h12 : setCells H3 (List.length H) x11p x11l x11o x60a.toList = some H4) (h13 : callInf cfg 13 [Value.int .i64 x53c] (List.length H) H4 = some (Value.int .i64 x64, H4)) (h14 : callInf cfg 13 [Value.int .i64 x60b] (List.length H) H4 = some (Value.int .i64 x66, H4)) (h15 : Fit .i64 (x64 + x66)) (h16 : (x64 + x66 != 0) = false) (h17 : getCells H4 x11p x11l x11o 8 = some x71.toList) (h18 : callInf cfg 20 [Value.agg x71, Value.int .i64 ((x2.tmod (↑x20n : Int) + (↑x20n : Int)).tmod (↑x20n : Int))] (List.length H) H4 = some (Value.bool x73, H4)) (h19 : (!x53b == x73) = false) (h20 : (!x53b) = false) (h21 : ((↑x53an : Int) == 0) = false) (h22 : aindexAddr cfg.P 34 (Value.slice x53aa x53an x53ac) (Value.int .i64 0) = some (Value.pointer (some ⟨x86p, x86o, some x86l⟩))) (h23 : getCells H4 x86p x86l x86o 1 = some [Value.int .i64 x87]) (h24 : (x87 != (x1.tmod (↑x20n : Int) + (↑x20n : Int)).tmod (↑x20n : Int)) = false) (h25 : Fit .i64 ((↑x53an : Int) - 1)) (h26 : aindexAddr cfg.P 34 (Value.slice x53aa x53an x53ac) (Value.int .i64 ((↑x53an : Int) - 1)) = some (Value.pointer (some ⟨x96p, x96o, some x96l⟩))) (h27 : getCells H4 x96p x96l x96o 1 = some [Value.int .i64 x97]) (h28 : (x97 != (x2.tmod (↑x20n : Int) + (↑x20n : Int)).tmod (↑x20n : Int)) = false) (h29 : lpInf (lpOf cfg a5 0 prot H) ([Value.int .i64 ((x2.tmod (↑x20n : Int) + (↑x20n : Int)).tmod (↑x20n : Int)), Value.slice x20a x20n x20c, Value.slice x53aa x53an x53ac, Value.int .i64 0], H4) = some (Ex.exit 0, [z6], H5)) : callInf cfg 5 [.slice x0a x0n x0c, .int .i64 x1, .int .i64 x2] prot H = some (Value.bool true, H) :=
  fn_of2 a5 [.r (.slice x20a x20n x20c) H1, .e, .e, .b false, .v (.bool x25), .b false, .e, .b false, .b false, .e, .e, .e, .e, .e, .e, .e, .e, .e, .e, .e, .e, .r (.tuple #[.slice x53aa x53an x53ac, .bool x53b, .int .i64 x53c]) H2, .v (.tuple #[.agg x60a, .int .i64 x60b]), .r (.pointer (some ⟨x11p, x11o, some x11l⟩)) H3, .h H4, .v (.int .i64 x64), .v (.int .i64 x66), .e, .e, .b false, .b false, .v (.agg x71), .b false, .b false, .v (.bool x73), .b false, .e, .b false, .b false, .e, .b false, .e, .e, .b false, .b false, .v (.pointer (some ⟨x86p, x86o, some x86l⟩)), .b false, .v (.int .i64 x87), .b false, .b false, .e, .b false, .b false, .b false, .b false, .e, .b false, .e, .b false, .v (.pointer (some ⟨x96p, x96o, some x96l⟩)), .b false, .v (.int .i64 x97), .b false, .b false, .e, .b false, .b false, .lo (.exit 0, [z6], H5)] (ai h1 (ai h2 (ai h3 (ai h2 (ai h2 (ai h4 (ai h5 (ai h6 (ai h5 (ai h5 (ai h7 (ai h5 (ai h8 (ai h9 (ai h10 (ai h11 (ai h12 (ai h13 (ai h14 (ai h15 (ai h16 (ai h16 (ai h17 (ai h16 (ai h16 (ai h18 (ai h16 (ai h16 (ai h19 (ai h20 (ai h21 (ai h21 (ai h22 (ai h21 (ai h23 (ai h21 (ai h21 (ai h21 (ai h24 (ai h24 (ai h24 (ai h24 (ai h25 (ai h24 (ai h26 (ai h24 (ai h27 (ai h24 (ai h24 (ai h24 (ai h28 (ai h29 (Eq.refl ((Value.bool true, H) : Value × AHeap)))))))))))))))))))))))))))))))))))))))))))))))))))))) (by kernel_rfl) rfl
theorem f5_F_8 {x0a : Option Addr} {x0n x0c : Nat} {x1 x2 : Int} {H : AHeap} {prot : Nat} {x20a : Option Addr} {x20n x20c : Nat} {H1 : AHeap} {x25 : Bool} {x53aa : Option Addr} {x53an x53ac : Nat} {x53b : Bool} {x53c : Int} {H2 : AHeap} {x60a : Array Value} {x60b : Int} {x11p x11o x11l : Nat} {H3 H4 : AHeap} {x64 x66 : Int} {x71 : Array Value} {x73 : Bool} (h1 : callInf cfg 17 [Value.slice x0a x0n x0c] (List.length H) H = some (Value.slice x20a x20n x20c, H1)) (h2 : ((↑x20n : Int) == 0) = false) (h3 : callInf cfg 16 [] (List.length H) H1 = some (Value.bool x25, H1)) (h4 : (!x25) = false) (h5 : (↑x20n : Int) ≠ 0) (h6 : Fit .i64 (x1.tmod (↑x20n : Int) + (↑x20n : Int))) (h7 : Fit .i64 (x2.tmod (↑x20n : Int) + (↑x20n : Int))) (h8 : callInf cfg 21 [Value.slice x20a x20n x20c, Value.int .i64 ((x1.tmod (↑x20n : Int) + (↑x20n : Int)).tmod (↑x20n : Int)), Value.int .i64 ((x2.tmod (↑x20n : Int) + (↑x20n : Int)).tmod (↑x20n : Int))] (List.length H) H1 = some (Value.tuple { toList := [Value.slice x53aa x53an x53ac, Value.bool x53b, Value.int .i64 x53c] }, H2)) (h9 : callInf cfg 19 [Value.slice x20a x20n x20c, Value.int .i64 ((x1.tmod (↑x20n : Int) + (↑x20n : Int)).tmod (↑x20n : Int))] (List.length H) H2 = some (Value.tuple { toList := [Value.agg x60a, Value.int .i64 x60b] }, H2)) (h10 : aalloc cfg.P 39 H2 = some (Value.pointer (some ⟨x11p, x11o, some x11l⟩), H3)) (h11 : x60a.toList.length = 8) (h12 : setCells H3 (List.length H) x11p x11l x11o x60a.toList = some H4) (h13 : callInf cfg 13 [Value.int .i64 x53c] (List.length H) H4 = some (Value.int .i64 x64, H4)) (h14 : callInf cfg 13 [Value.int .i64 x60b] (List.length H) H4 = some (Value.int .i64 x66, H4)) (h15 : Fit .i64 (x64 + x66)) (h16 : (x64 + x66 != 0) = false) (h17 : getCells H4 x11p x11l x11o 8 = some x71.toList) (h18 : callInf cfg 20 [Value.agg x71, Value.int .i64 ((x2.tmod (↑x20n : Int) + (↑x20n : Int)).tmod (↑x20n : Int))] (List.length H) H4 = some (Value.bool x73, H4)) (h19 : (!x53b == x73) = false) (h20 : (!x53b) = true) : callInf cfg 5 [.slice x0a x0n x0c, .int .i64 x1, .int .i64 x2] prot H = some (Value.bool ((↑x53an : Int) == 0), H) :=
  fn_of2 a5 [.r (.slice x20a x20n x20c) H1, .e, .e, .b false, .v (.bool x25), .b false, .e, .b false, .b false, .e, .e, .e, .e, .e, .e, .e, .e, .e, .e, .e, .e, .r (.tuple #[.slice x53aa x53an x53ac, .bool x53b, .int .i64 x53c]) H2, .v (.tuple #[.agg x60a, .int .i64 x60b]), .r (.pointer (some ⟨x11p, x11o, some x11l⟩)) H3, .h H4, .v (.int .i64 x64), .v (.int .i64 x66), .e, .e, .b false, .b false, .v (.agg x71), .b false, .b false, .v (.bool x73), .b false, .e, .b false, .b false, .e, .b true, .e, .e] (ai h1 (ai h2 (ai h3 (ai h2 (ai h2 (ai h4 (ai h5 (ai h6 (ai h5 (ai h5 (ai h7 (ai h5 (ai h8 (ai h9 (ai h10 (ai h11 (ai h12 (ai h13 (ai h14 (ai h15 (ai h16 (ai h16 (ai h17 (ai h16 (ai h16 (ai h18 (ai h16 (ai h16 (ai h19 (ai h20 (Eq.refl ((Value.bool ((↑x53an : Int) == 0), H) : Value × AHeap)))))))))))))))))))))))))))))))) (by kernel_rfl) rfl
theorem f5_L0_0 {x2 : Int} {x7a : Option Addr} {x7n x7c : Nat} {x8a : Option Addr} {x8n x8c : Nat} {x13 : Int} {H0 : AHeap} {prot : Nat} {H : AHeap} {z2 : Int} {z6 : Value} {z7a : Option Addr} {z7n z7c : Nat} {z8a : Option Addr} {z8n z8c : Nat} {z13 : Int} {z14 : Bool} {H2 : AHeap} (h1 : Fit .i64 (x13 + 1)) (h2 : x13 + 1 < (↑x8n : Int)) (h3 : lpInf (lpOf cfg a5 1 prot H0) ([Value.int .i64 x2, Value.slice x7a x7n x7c, Value.slice x8a x8n x8c, Value.int .i64 x13, Value.bool false, Value.int .i64 0], H) = some (Ex.exit 2, [Value.int .i64 z2, z6, Value.slice z7a z7n z7c, Value.slice z8a z8n z8c, Value.int .i64 z13, Value.bool z14], H2)) (h4 : (!z14) = false) (h5 : Fit .i64 (z13 + 1)) : lpOf cfg a5 0 prot H0 ([.int .i64 x2, .slice x7a x7n x7c, .slice x8a x8n x8c, .int .i64 x13], H) = some (Sum.inl ([Value.int .i64 z2, Value.slice z7a z7n z7c, Value.slice z8a z8n z8c, Value.int .i64 (z13 + 1)], H2)) :=
  lp_of2 [.e, .e, .e, .b true, .lo (.exit 2, [.int .i64 z2, z6, .slice z7a z7n z7c, .slice z8a z8n z8c, .int .i64 z13, .bool z14], H2), .e, .b false, .e] (ai h1 (ai (decide_eq_true h2) (ai h3 (ai h4 (ai h5 (Eq.refl (Sum.inl ([Value.int .i64 z2, Value.slice z7a z7n z7c, Value.slice z8a z8n z8c, Value.int .i64 (z13 + 1)], H2) : LS ⊕ LO))))))) (by kernel_rfl)
theorem f5_L0_3 {x2 : Int} {x7a : Option Addr} {x7n x7c : Nat} {x8a : Option Addr} {x8n x8c : Nat} {x13 : Int} {H0 : AHeap} {prot : Nat} {H : AHeap} (h1 : Fit .i64 (x13 + 1)) (h2 : ¬(x13 + 1 < (↑x8n : Int))) : lpOf cfg a5 0 prot H0 ([.int .i64 x2, .slice x7a x7n x7c, .slice x8a x8n x8c, .int .i64 x13], H) = some (Sum.inr (Ex.exit 0, [Value.tuple { toList := [] }], H)) :=
  lp_of2 [.e, .e, .e, .b false] (ai h1 (ai (decide_eq_false h2) (Eq.refl (Sum.inr (Ex.exit 0, [Value.tuple { toList := [] }], H) : LS ⊕ LO)))) (by kernel_rfl)
theorem f5_L1_3 {x2 : Int} {x7a : Option Addr} {x7n x7c : Nat} {x8a : Option Addr} {x8n x8c : Nat} {x13 : Int} {x14 : Bool} {x15 : Int} {H0 : AHeap} {prot : Nat} {H : AHeap} {x112p x112o x112l : Nat} {x113 : Int} {x114p x114o x114l : Nat} {x115a : Option Addr} {x115n x115c x144p x144o x144l : Nat} {x145 : Int} {x146p x146o x146l : Nat} {x147a : Option Addr} {x147n x147c x149p x149o x149l : Nat} {x150 : Int} {x152aa : Option Addr} {x152an x152ac : Nat} {x152b : Bool} {x152c : Int} {H2 : AHeap} {x157 : Int} {x188p x188o x188l : Nat} {x189 : Int} {x190p x190o x190l : Nat} {x191a : Option Addr} {x191n x191c x193p x193o x193l : Nat} {x194 : Int} {x198p x198o x198l : Nat} {x199 : Int} (h1 : aindexAddr cfg.P 34 (Value.slice x8a x8n x8c) (Value.int .i64 x13) = some (Value.pointer (some ⟨x112p, x112o, some x112l⟩))) (h2 : getCells H x112p x112l x112o 1 = some [Value.int .i64 x113]) (h3 : aindexAddr cfg.P 22 (Value.slice x7a x7n x7c) (Value.int .i64 x113) = some (Value.pointer (some ⟨x114p, x114o, some x114l⟩))) (h4 : getCells H x114p x114l x114o 1 = some [Value.slice x115a x115n x115c]) (h5 : x15 < (↑x115n : Int)) (h6 : x14 = true) (h7 : aindexAddr cfg.P 34 (Value.slice x8a x8n x8c) (Value.int .i64 x13) = some (Value.pointer (some ⟨x144p, x144o, some x144l⟩))) (h8 : getCells H x144p x144l x144o 1 = some [Value.int .i64 x145]) (h9 : aindexAddr cfg.P 22 (Value.slice x7a x7n x7c) (Value.int .i64 x145) = some (Value.pointer (some ⟨x146p, x146o, some x146l⟩))) (h10 : getCells H x146p x146l x146o 1 = some [Value.slice x147a x147n x147c]) (h11 : aindexAddr cfg.P 34 (Value.slice x147a x147n x147c) (Value.int .i64 x15) = some (Value.pointer (some ⟨x149p, x149o, some x149l⟩))) (h12 : getCells H x149p x149l x149o 1 = some [Value.int .i64 x150]) (h13 : callInf cfg 21 [Value.slice x7a x7n x7c, Value.int .i64 x150, Value.int .i64 x2] (List.length H0) H = some (Value.tuple { toList := [Value.slice x152aa x152an x152ac, Value.bool x152b, Value.int .i64 x152c] }, H2)) (h14 : callInf cfg 13 [Value.int .i64 x152c] (List.length H0) H2 = some (Value.int .i64 x157, H2)) (h15 : (x157 != 0) = false) (h16 : x152b = true) (h17 : Fit .i64 ((↑x8n : Int) - x13)) (h18 : Fit .i64 ((↑x8n : Int) - x13 - 1)) (h19 : ¬((↑x152an : Int) < (↑x8n : Int) - x13 - 1)) (h20 : ((↑x152an : Int) == (↑x8n : Int) - x13 - 1) = true) (h21 : aindexAddr cfg.P 34 (Value.slice x8a x8n x8c) (Value.int .i64 x13) = some (Value.pointer (some ⟨x188p, x188o, some x188l⟩))) (h22 : getCells H2 x188p x188l x188o 1 = some [Value.int .i64 x189]) (h23 : aindexAddr cfg.P 22 (Value.slice x7a x7n x7c) (Value.int .i64 x189) = some (Value.pointer (some ⟨x190p, x190o, some x190l⟩))) (h24 : getCells H2 x190p x190l x190o 1 = some [Value.slice x191a x191n x191c]) (h25 : aindexAddr cfg.P 34 (Value.slice x191a x191n x191c) (Value.int .i64 x15) = some (Value.pointer (some ⟨x193p, x193o, some x193l⟩))) (h26 : getCells H2 x193p x193l x193o 1 = some [Value.int .i64 x194]) (h27 : Fit .i64 (x13 + 1)) (h28 : aindexAddr cfg.P 34 (Value.slice x8a x8n x8c) (Value.int .i64 (x13 + 1)) = some (Value.pointer (some ⟨x198p, x198o, some x198l⟩))) (h29 : getCells H2 x198p x198l x198o 1 = some [Value.int .i64 x199]) (h30 : ¬(x194 < x199)) (h31 : Fit .i64 (x15 + 1)) : lpOf cfg a5 1 prot H0 ([.int .i64 x2, .slice x7a x7n x7c, .slice x8a x8n x8c, .int .i64 x13, .bool x14, .int .i64 x15], H) = some (Sum.inl ([Value.int .i64 x2, Value.slice x7a x7n x7c, Value.slice x8a x8n x8c, Value.int .i64 x13, Value.bool true, Value.int .i64 (x15 + 1)], H2)) :=
  lp_of2 [.v (.pointer (some ⟨x112p, x112o, some x112l⟩)), .v (.int .i64 x113), .v (.pointer (some ⟨x114p, x114o, some x114l⟩)), .v (.slice x115a x115n x115c), .e, .e, .b true, .b true, .b true, .b true, .b true, .b true, .b true, .b true, .b true, .b true, .b true, .b true, .b true, .b true, .b true, .b true, .b true, .b true, .v (.pointer (some ⟨x144p, x144o, some x144l⟩)), .v (.int .i64 x145), .v (.pointer (some ⟨x146p, x146o, some x146l⟩)), .v (.slice x147a x147n x147c), .v (.pointer (some ⟨x149p, x149o, some x149l⟩)), .v (.int .i64 x150), .r (.tuple #[.slice x152aa x152an x152ac, .bool x152b, .int .i64 x152c]) H2, .v (.int .i64 x157), .e, .b false, .b false, .b true, .b true, .e, .b true, .b true, .e, .b true, .b true, .e, .b true, .e, .b true, .e, .b false, .b true, .b false, .b false, .b false, .b true, .b true, .e, .b true, .b true, .e, .b true, .b true, .e, .b true, .e, .b true, .e, .b false, .b true, .b false, .b true, .b true, .b true, .b true, .v (.pointer (some ⟨x188p, x188o, some x188l⟩)), .b true, .v (.int .i64 x189), .b true, .v (.pointer (some ⟨x190p, x190o, some x190l⟩)), .b true, .v (.slice x191a x191n x191c), .b true, .b true, .v (.pointer (some ⟨x193p, x193o, some x193l⟩)), .b true, .v (.int .i64 x194), .b true, .b true, .b true, .e, .b true, .v (.pointer (some ⟨x198p, x198o, some x198l⟩)), .b true, .v (.int .i64 x199), .b true, .e, .b false, .b true, .b false, .b false, .e] (ai h1 (ai h2 (ai h3 (ai h4 (ai (decide_eq_true h5) (ai h6 (ai h6 (ai h6 (ai h6 (ai h6 (ai h6 (ai h6 (ai h6 (ai h6 (ai h6 (ai h6 (ai h6 (ai h6 (ai h6 (ai h6 (ai h6 (ai h6 (ai h7 (ai h8 (ai h9 (ai h10 (ai h11 (ai h12 (ai h13 (ai h14 (ai h15 (ai h15 (ai h16 (ai h16 (ai h16 (ai h16 (ai h16 (ai h16 (ai h17 (ai h16 (ai h18 (ai h16 (ai h15 (ai h16 (ai h15 (ai (decide_eq_false h19) (ai (decide_eq_false h19) (ai h16 (ai h16 (ai h16 (ai h16 (ai h16 (ai h16 (ai h17 (ai h16 (ai h18 (ai h16 (ai (decide_eq_false h19) (ai h16 (ai (decide_eq_false h19) (ai h20 (ai h20 (ai h20 (ai h20 (ai h21 (ai h20 (ai h22 (ai h20 (ai h23 (ai h20 (ai h24 (ai h20 (ai h20 (ai h25 (ai h20 (ai h26 (ai h20 (ai h20 (ai h20 (ai h27 (ai h20 (ai h28 (ai h20 (ai h29 (ai h20 (ai (decide_eq_false h19) (ai h20 (ai (decide_eq_false h19) (ai (decide_eq_false h30) (ai h31 (Eq.refl (Sum.inl ([Value.int .i64 x2, Value.slice x7a x7n x7c, Value.slice x8a x8n x8c, Value.int .i64 x13, Value.bool true, Value.int .i64 (x15 + 1)], H2) : LS ⊕ LO)))))))))))))))))))))))))))))))))))))))))))))))))))))))))))))))))))))))))))))))))))))))))))) (by kernel_rfl)
theorem f5_L1_4 {x2 : Int} {x7a : Option Addr} {x7n x7c : Nat} {x8a : Option Addr} {x8n x8c : Nat} {x13 : Int} {x14 : Bool} {x15 : Int} {H0 : AHeap} {prot : Nat} {H : AHeap} {x112p x112o x112l : Nat} {x113 : Int} {x114p x114o x114l : Nat} {x115a : Option Addr} {x115n x115c x144p x144o x144l : Nat} {x145 : Int} {x146p x146o x146l : Nat} {x147a : Option Addr} {x147n x147c x149p x149o x149l : Nat} {x150 : Int} {x152aa : Option Addr} {x152an x152ac : Nat} {x152b : Bool} {x152c : Int} {H2 : AHeap} {x157 : Int} (h1 : aindexAddr cfg.P 34 (Value.slice x8a x8n x8c) (Value.int .i64 x13) = some (Value.pointer (some ⟨x112p, x112o, some x112l⟩))) (h2 : getCells H x112p x112l x112o 1 = some [Value.int .i64 x113]) (h3 : aindexAddr cfg.P 22 (Value.slice x7a x7n x7c) (Value.int .i64 x113) = some (Value.pointer (some ⟨x114p, x114o, some x114l⟩))) (h4 : getCells H x114p x114l x114o 1 = some [Value.slice x115a x115n x115c]) (h5 : x15 < (↑x115n : Int)) (h6 : x14 = true) (h7 : aindexAddr cfg.P 34 (Value.slice x8a x8n x8c) (Value.int .i64 x13) = some (Value.pointer (some ⟨x144p, x144o, some x144l⟩))) (h8 : getCells H x144p x144l x144o 1 = some [Value.int .i64 x145]) (h9 : aindexAddr cfg.P 22 (Value.slice x7a x7n x7c) (Value.int .i64 x145) = some (Value.pointer (some ⟨x146p, x146o, some x146l⟩))) (h10 : getCells H x146p x146l x146o 1 = some [Value.slice x147a x147n x147c]) (h11 : aindexAddr cfg.P 34 (Value.slice x147a x147n x147c) (Value.int .i64 x15) = some (Value.pointer (some ⟨x149p, x149o, some x149l⟩))) (h12 : getCells H x149p x149l x149o 1 = some [Value.int .i64 x150]) (h13 : callInf cfg 21 [Value.slice x7a x7n x7c, Value.int .i64 x150, Value.int .i64 x2] (List.length H0) H = some (Value.tuple { toList := [Value.slice x152aa x152an x152ac, Value.bool x152b, Value.int .i64 x152c] }, H2)) (h14 : callInf cfg 13 [Value.int .i64 x152c] (List.length H0) H2 = some (Value.int .i64 x157, H2)) (h15 : (x157 != 0) = false) (h16 : x152b = true) (h17 : Fit .i64 ((↑x8n : Int) - x13)) (h18 : Fit .i64 ((↑x8n : Int) - x13 - 1)) (h19 : ¬((↑x152an : Int) < (↑x8n : Int) - x13 - 1)) (h20 : ((↑x152an : Int) == (↑x8n : Int) - x13 - 1) = false) (h21 : Fit .i64 (x15 + 1)) : lpOf cfg a5 1 prot H0 ([.int .i64 x2, .slice x7a x7n x7c, .slice x8a x8n x8c, .int .i64 x13, .bool x14, .int .i64 x15], H) = some (Sum.inl ([Value.int .i64 x2, Value.slice x7a x7n x7c, Value.slice x8a x8n x8c, Value.int .i64 x13, Value.bool true, Value.int .i64 (x15 + 1)], H2)) :=
  lp_of2 [.v (.pointer (some ⟨x112p, x112o, some x112l⟩)), .v (.int .i64 x113), .v (.pointer (some ⟨x114p, x114o, some x114l⟩)), .v (.slice x115a x115n x115c), .e, .e, .b true, .b true, .b true, .b true, .b true, .b true, .b true, .b true, .b true, .b true, .b true, .b true, .b true, .b true, .b true, .b true, .b true, .b true, .v (.pointer (some ⟨x144p, x144o, some x144l⟩)), .v (.int .i64 x145), .v (.pointer (some ⟨x146p, x146o, some x146l⟩)), .v (.slice x147a x147n x147c), .v (.pointer (some ⟨x149p, x149o, some x149l⟩)), .v (.int .i64 x150), .r (.tuple #[.slice x152aa x152an x152ac, .bool x152b, .int .i64 x152c]) H2, .v (.int .i64 x157), .e, .b false, .b false, .b true, .b true, .e, .b true, .b true, .e, .b true, .b true, .e, .b true, .e, .b true, .e, .b false, .b true, .b false, .b false, .b false, .b true, .b true, .e, .b true, .b true, .e, .b true, .b true, .e, .b true, .e, .b true, .e, .b false, .b true, .b false, .b false, .b false, .b false, .b false, .b false, .b false, .b false, .b false, .b false, .b false, .b false, .b false, .b false, .b false, .b false, .b false, .b false, .b false, .b false, .b false, .e] (ai h1 (ai h2 (ai h3 (ai h4 (ai (decide_eq_true h5) (ai h6 (ai h6 (ai h6 (ai h6 (ai h6 (ai h6 (ai h6 (ai h6 (ai h6 (ai h6 (ai h6 (ai h6 (ai h6 (ai h6 (ai h6 (ai h6 (ai h6 (ai h7 (ai h8 (ai h9 (ai h10 (ai h11 (ai h12 (ai h13 (ai h14 (ai h15 (ai h15 (ai h16 (ai h16 (ai h16 (ai h16 (ai h16 (ai h16 (ai h17 (ai h16 (ai h18 (ai h16 (ai h15 (ai h16 (ai h15 (ai (decide_eq_false h19) (ai (decide_eq_false h19) (ai h16 (ai h16 (ai h16 (ai h16 (ai h16 (ai h16 (ai h17 (ai h16 (ai h18 (ai h16 (ai (decide_eq_false h19) (ai h16 (ai (decide_eq_false h19) (ai h20 (ai h20 (ai h20 (ai h20 (ai h20 (ai h20 (ai h20 (ai h20 (ai h20 (ai h20 (ai h20 (ai h20 (ai h20 (ai h20 (ai h20 (ai h20 (ai (decide_eq_false h19) (ai h20 (ai (decide_eq_false h19) (ai (Eq.refl false) (ai h21 (Eq.refl (Sum.inl ([Value.int .i64 x2, Value.slice x7a x7n x7c, Value.slice x8a x8n x8c, Value.int .i64 x13, Value.bool true, Value.int .i64 (x15 + 1)], H2) : LS ⊕ LO))))))))))))))))))))))))))))))))))))))))))))))))))))))))))))))))))))))))))))))))))) (by kernel_rfl)
theorem f5_L1_5 {x2 : Int} {x7a : Option Addr} {x7n x7c : Nat} {x8a : Option Addr} {x8n x8c : Nat} {x13 : Int} {x14 : Bool} {x15 : Int} {H0 : AHeap} {prot : Nat} {H : AHeap} {x112p x112o x112l : Nat} {x113 : Int} {x114p x114o x114l : Nat} {x115a : Option Addr} {x115n x115c x144p x144o x144l : Nat} {x145 : Int} {x146p x146o x146l : Nat} {x147a : Option Addr} {x147n x147c x149p x149o x149l : Nat} {x150 : Int} {x152aa : Option Addr} {x152an x152ac : Nat} {x152b : Bool} {x152c : Int} {H2 : AHeap} {x157 : Int} (h1 : aindexAddr cfg.P 34 (Value.slice x8a x8n x8c) (Value.int .i64 x13) = some (Value.pointer (some ⟨x112p, x112o, some x112l⟩))) (h2 : getCells H x112p x112l x112o 1 = some [Value.int .i64 x113]) (h3 : aindexAddr cfg.P 22 (Value.slice x7a x7n x7c) (Value.int .i64 x113) = some (Value.pointer (some ⟨x114p, x114o, some x114l⟩))) (h4 : getCells H x114p x114l x114o 1 = some [Value.slice x115a x115n x115c]) (h5 : x15 < (↑x115n : Int)) (h6 : x14 = true) (h7 : aindexAddr cfg.P 34 (Value.slice x8a x8n x8c) (Value.int .i64 x13) = some (Value.pointer (some ⟨x144p, x144o, some x144l⟩))) (h8 : getCells H x144p x144l x144o 1 = some [Value.int .i64 x145]) (h9 : aindexAddr cfg.P 22 (Value.slice x7a x7n x7c) (Value.int .i64 x145) = some (Value.pointer (some ⟨x146p, x146o, some x146l⟩))) (h10 : getCells H x146p x146l x146o 1 = some [Value.slice x147a x147n x147c]) (h11 : aindexAddr cfg.P 34 (Value.slice x147a x147n x147c) (Value.int .i64 x15) = some (Value.pointer (some ⟨x149p, x149o, some x149l⟩))) (h12 : getCells H x149p x149l x149o 1 = some [Value.int .i64 x150]) (h13 : callInf cfg 21 [Value.slice x7a x7n x7c, Value.int .i64 x150, Value.int .i64 x2] (List.length H0) H = some (Value.tuple { toList := [Value.slice x152aa x152an x152ac, Value.bool x152b, Value.int .i64 x152c] }, H2)) (h14 : callInf cfg 13 [Value.int .i64 x152c] (List.length H0) H2 = some (Value.int .i64 x157, H2)) (h15 : (x157 != 0) = false) (h16 : x152b = false) (h17 : Fit .i64 (x15 + 1)) : lpOf cfg a5 1 prot H0 ([.int .i64 x2, .slice x7a x7n x7c, .slice x8a x8n x8c, .int .i64 x13, .bool x14, .int .i64 x15], H) = some (Sum.inl ([Value.int .i64 x2, Value.slice x7a x7n x7c, Value.slice x8a x8n x8c, Value.int .i64 x13, Value.bool true, Value.int .i64 (x15 + 1)], H2)) :=
  lp_of2 [.v (.pointer (some ⟨x112p, x112o, some x112l⟩)), .v (.int .i64 x113), .v (.pointer (some ⟨x114p, x114o, some x114l⟩)), .v (.slice x115a x115n x115c), .e, .e, .b true, .b true, .b true, .b true, .b true, .b true, .b true, .b true, .b true, .b true, .b true, .b true, .b true, .b true, .b true, .b true, .b true, .b true, .v (.pointer (some ⟨x144p, x144o, some x144l⟩)), .v (.int .i64 x145), .v (.pointer (some ⟨x146p, x146o, some x146l⟩)), .v (.slice x147a x147n x147c), .v (.pointer (some ⟨x149p, x149o, some x149l⟩)), .v (.int .i64 x150), .r (.tuple #[.slice x152aa x152an x152ac, .bool x152b, .int .i64 x152c]) H2, .v (.int .i64 x157), .e, .b false, .b false, .b false, .b false, .b false, .b false, .b false, .b false, .b false, .b false, .b false, .b false, .b false, .b false, .b false, .b false, .b false, .b false, .b false, .b false, .b false, .b false, .b false, .b false, .b false, .b false, .b false, .b false, .b false, .b false, .b false, .b false, .b false, .b false, .b false, .b false, .b false, .b false, .b false, .b false, .b false, .b false, .b false, .b false, .b false, .b false, .e] (ai h1 (ai h2 (ai h3 (ai h4 (ai (decide_eq_true h5) (ai h6 (ai h6 (ai h6 (ai h6 (ai h6 (ai h6 (ai h6 (ai h6 (ai h6 (ai h6 (ai h6 (ai h6 (ai h6 (ai h6 (ai h6 (ai h6 (ai h6 (ai h7 (ai h8 (ai h9 (ai h10 (ai h11 (ai h12 (ai h13 (ai h14 (ai h15 (ai h15 (ai h16 (ai h16 (ai h16 (ai h16 (ai h16 (ai h16 (ai h16 (ai h16 (ai h15 (ai h16 (ai h15 (ai (Eq.refl false) (ai (Eq.refl false) (ai h16 (ai h16 (ai h16 (ai h16 (ai h16 (ai h16 (ai h16 (ai h16 (ai (Eq.refl false) (ai h16 (ai (Eq.refl false) (ai (Eq.refl false) (ai (Eq.refl false) (ai (Eq.refl false) (ai (Eq.refl false) (ai (Eq.refl false) (ai (Eq.refl false) (ai (Eq.refl false) (ai (Eq.refl false) (ai (Eq.refl false) (ai (Eq.refl false) (ai (Eq.refl false) (ai (Eq.refl false) (ai (Eq.refl false) (ai (Eq.refl false) (ai (Eq.refl false) (ai (Eq.refl false) (ai (Eq.refl false) (ai (Eq.refl false) (ai (Eq.refl false) (ai (Eq.refl false) (ai h17 (Eq.refl (Sum.inl ([Value.int .i64 x2, Value.slice x7a x7n x7c, Value.slice x8a x8n x8c, Value.int .i64 x13, Value.bool true, Value.int .i64 (x15 + 1)], H2) : LS ⊕ LO))))))))))))))))))))))))))))))))))))))))))))))))))))))))))))))))))))))))))))))) (by kernel_rfl)
theorem f5_L1_9 {x2 : Int} {x7a : Option Addr} {x7n x7c : Nat} {x8a : Option Addr} {x8n x8c : Nat} {x13 : Int} {x14 : Bool} {x15 : Int} {H0 : AHeap} {prot : Nat} {H : AHeap} {x112p x112o x112l : Nat} {x113 : Int} {x114p x114o x114l : Nat} {x115a : Option Addr} {x115n x115c x125p x125o x125l : Nat} {x126 : Int} {x127p x127o x127l : Nat} {x128a : Option Addr} {x128n x128c x130p x130o x130l : Nat} {x131 : Int} {x135p x135o x135l : Nat} {x136 : Int} {x144p x144o x144l : Nat} {x145 : Int} {x146p x146o x146l : Nat} {x147a : Option Addr} {x147n x147c x149p x149o x149l : Nat} {x150 : Int} {x152aa : Option Addr} {x152an x152ac : Nat} {x152b : Bool} {x152c : Int} {H2 : AHeap} {x157 : Int} {x188p x188o x188l : Nat} {x189 : Int} {x190p x190o x190l : Nat} {x191a : Option Addr} {x191n x191c x193p x193o x193l : Nat} {x194 : Int} {x198p x198o x198l : Nat} {x199 : Int} (h1 : aindexAddr cfg.P 34 (Value.slice x8a x8n x8c) (Value.int .i64 x13) = some (Value.pointer (some ⟨x112p, x112o, some x112l⟩))) (h2 : getCells H x112p x112l x112o 1 = some [Value.int .i64 x113]) (h3 : aindexAddr cfg.P 22 (Value.slice x7a x7n x7c) (Value.int .i64 x113) = some (Value.pointer (some ⟨x114p, x114o, some x114l⟩))) (h4 : getCells H x114p x114l x114o 1 = some [Value.slice x115a x115n x115c]) (h5 : x15 < (↑x115n : Int)) (h6 : x14 = false) (h7 : aindexAddr cfg.P 34 (Value.slice x8a x8n x8c) (Value.int .i64 x13) = some (Value.pointer (some ⟨x125p, x125o, some x125l⟩))) (h8 : getCells H x125p x125l x125o 1 = some [Value.int .i64 x126]) (h9 : aindexAddr cfg.P 22 (Value.slice x7a x7n x7c) (Value.int .i64 x126) = some (Value.pointer (some ⟨x127p, x127o, some x127l⟩))) (h10 : getCells H x127p x127l x127o 1 = some [Value.slice x128a x128n x128c]) (h11 : aindexAddr cfg.P 34 (Value.slice x128a x128n x128c) (Value.int .i64 x15) = some (Value.pointer (some ⟨x130p, x130o, some x130l⟩))) (h12 : getCells H x130p x130l x130o 1 = some [Value.int .i64 x131]) (h13 : Fit .i64 (x13 + 1)) (h14 : aindexAddr cfg.P 34 (Value.slice x8a x8n x8c) (Value.int .i64 (x13 + 1)) = some (Value.pointer (some ⟨x135p, x135o, some x135l⟩))) (h15 : getCells H x135p x135l x135o 1 = some [Value.int .i64 x136]) (h16 : aindexAddr cfg.P 34 (Value.slice x8a x8n x8c) (Value.int .i64 x13) = some (Value.pointer (some ⟨x144p, x144o, some x144l⟩))) (h17 : getCells H x144p x144l x144o 1 = some [Value.int .i64 x145]) (h18 : aindexAddr cfg.P 22 (Value.slice x7a x7n x7c) (Value.int .i64 x145) = some (Value.pointer (some ⟨x146p, x146o, some x146l⟩))) (h19 : getCells H x146p x146l x146o 1 = some [Value.slice x147a x147n x147c]) (h20 : aindexAddr cfg.P 34 (Value.slice x147a x147n x147c) (Value.int .i64 x15) = some (Value.pointer (some ⟨x149p, x149o, some x149l⟩))) (h21 : getCells H x149p x149l x149o 1 = some [Value.int .i64 x150]) (h22 : callInf cfg 21 [Value.slice x7a x7n x7c, Value.int .i64 x150, Value.int .i64 x2] (List.length H0) H = some (Value.tuple { toList := [Value.slice x152aa x152an x152ac, Value.bool x152b, Value.int .i64 x152c] }, H2)) (h23 : callInf cfg 13 [Value.int .i64 x152c] (List.length H0) H2 = some (Value.int .i64 x157, H2)) (h24 : (x157 != 0) = false) (h25 : x152b = true) (h26 : Fit .i64 ((↑x8n : Int) - x13)) (h27 : Fit .i64 ((↑x8n : Int) - x13 - 1)) (h28 : ¬((↑x152an : Int) < (↑x8n : Int) - x13 - 1)) (h29 : ((↑x152an : Int) == (↑x8n : Int) - x13 - 1) = true) (h30 : aindexAddr cfg.P 34 (Value.slice x8a x8n x8c) (Value.int .i64 x13) = some (Value.pointer (some ⟨x188p, x188o, some x188l⟩))) (h31 : getCells H2 x188p x188l x188o 1 = some [Value.int .i64 x189]) (h32 : aindexAddr cfg.P 22 (Value.slice x7a x7n x7c) (Value.int .i64 x189) = some (Value.pointer (some ⟨x190p, x190o, some x190l⟩))) (h33 : getCells H2 x190p x190l x190o 1 = some [Value.slice x191a x191n x191c]) (h34 : aindexAddr cfg.P 34 (Value.slice x191a x191n x191c) (Value.int .i64 x15) = some (Value.pointer (some ⟨x193p, x193o, some x193l⟩))) (h35 : getCells H2 x193p x193l x193o 1 = some [Value.int .i64 x194]) (h36 : aindexAddr cfg.P 34 (Value.slice x8a x8n x8c) (Value.int .i64 (x13 + 1)) = some (Value.pointer (some ⟨x198p, x198o, some x198l⟩))) (h37 : getCells H2 x198p x198l x198o 1 = some [Value.int .i64 x199]) (h38 : ¬(x194 < x199)) (h39 : Fit .i64 (x15 + 1)) : lpOf cfg a5 1 prot H0 ([.int .i64 x2, .slice x7a x7n x7c, .slice x8a x8n x8c, .int .i64 x13, .bool x14, .int .i64 x15], H) = some (Sum.inl ([Value.int .i64 x2, Value.slice x7a x7n x7c, Value.slice x8a x8n x8c, Value.int .i64 x13, Value.bool (x131 == x136), Value.int .i64 (x15 + 1)], H2)) :=
  lp_of2 [.v (.pointer (some ⟨x112p, x112o, some x112l⟩)), .v (.int .i64 x113), .v (.pointer (some ⟨x114p, x114o, some x114l⟩)), .v (.slice x115a x115n x115c), .e, .e, .b true, .b false, .b false, .b false, .b false, .v (.pointer (some ⟨x125p, x125o, some x125l⟩)), .b false, .v (.int .i64 x126), .b false, .v (.pointer (some ⟨x127p, x127o, some x127l⟩)), .b false, .v (.slice x128a x128n x128c), .b false, .b false, .v (.pointer (some ⟨x130p, x130o, some x130l⟩)), .b false, .v (.int .i64 x131), .b false, .b false, .b false, .e, .b false, .v (.pointer (some ⟨x135p, x135o, some x135l⟩)), .b false, .v (.int .i64 x136), .b false, .e, .b false, .v (.pointer (some ⟨x144p, x144o, some x144l⟩)), .v (.int .i64 x145), .v (.pointer (some ⟨x146p, x146o, some x146l⟩)), .v (.slice x147a x147n x147c), .v (.pointer (some ⟨x149p, x149o, some x149l⟩)), .v (.int .i64 x150), .r (.tuple #[.slice x152aa x152an x152ac, .bool x152b, .int .i64 x152c]) H2, .v (.int .i64 x157), .e, .b false, .b false, .b true, .b true, .e, .b true, .b true, .e, .b true, .b true, .e, .b true, .e, .b true, .e, .b false, .b true, .b false, .b false, .b false, .b true, .b true, .e, .b true, .b true, .e, .b true, .b true, .e, .b true, .e, .b true, .e, .b false, .b true, .b false, .b true, .b true, .b true, .b true, .v (.pointer (some ⟨x188p, x188o, some x188l⟩)), .b true, .v (.int .i64 x189), .b true, .v (.pointer (some ⟨x190p, x190o, some x190l⟩)), .b true, .v (.slice x191a x191n x191c), .b true, .b true, .v (.pointer (some ⟨x193p, x193o, some x193l⟩)), .b true, .v (.int .i64 x194), .b true, .b true, .b true, .e, .b true, .v (.pointer (some ⟨x198p, x198o, some x198l⟩)), .b true, .v (.int .i64 x199), .b true, .e, .b false, .b true, .b false, .b false, .e] (ai h1 (ai h2 (ai h3 (ai h4 (ai (decide_eq_true h5) (ai h6 (ai h6 (ai h6 (ai h6 (ai h7 (ai h6 (ai h8 (ai h6 (ai h9 (ai h6 (ai h10 (ai h6 (ai h6 (ai h11 (ai h6 (ai h12 (ai h6 (ai h6 (ai h6 (ai h13 (ai h6 (ai h14 (ai h6 (ai h15 (ai h6 (ai h6 (ai h16 (ai h17 (ai h18 (ai h19 (ai h20 (ai h21 (ai h22 (ai h23 (ai h24 (ai h24 (ai h25 (ai h25 (ai h25 (ai h25 (ai h25 (ai h25 (ai h26 (ai h25 (ai h27 (ai h25 (ai h24 (ai h25 (ai h24 (ai (decide_eq_false h28) (ai (decide_eq_false h28) (ai h25 (ai h25 (ai h25 (ai h25 (ai h25 (ai h25 (ai h26 (ai h25 (ai h27 (ai h25 (ai (decide_eq_false h28) (ai h25 (ai (decide_eq_false h28) (ai h29 (ai h29 (ai h29 (ai h29 (ai h30 (ai h29 (ai h31 (ai h29 (ai h32 (ai h29 (ai h33 (ai h29 (ai h29 (ai h34 (ai h29 (ai h35 (ai h29 (ai h29 (ai h29 (ai h13 (ai h29 (ai h36 (ai h29 (ai h37 (ai h29 (ai (decide_eq_false h28) (ai h29 (ai (decide_eq_false h28) (ai (decide_eq_false h38) (ai h39 (Eq.refl (Sum.inl ([Value.int .i64 x2, Value.slice x7a x7n x7c, Value.slice x8a x8n x8c, Value.int .i64 x13, Value.bool (x131 == x136), Value.int .i64 (x15 + 1)], H2) : LS ⊕ LO))))))))))))))))))))))))))))))))))))))))))))))))))))))))))))))))))))))))))))))))))))))))))))))))))))) (by kernel_rfl)
theorem f5_L1_10 {x2 : Int} {x7a : Option Addr} {x7n x7c : Nat} {x8a : Option Addr} {x8n x8c : Nat} {x13 : Int} {x14 : Bool} {x15 : Int} {H0 : AHeap} {prot : Nat} {H : AHeap} {x112p x112o x112l : Nat} {x113 : Int} {x114p x114o x114l : Nat} {x115a : Option Addr} {x115n x115c x125p x125o x125l : Nat} {x126 : Int} {x127p x127o x127l : Nat} {x128a : Option Addr} {x128n x128c x130p x130o x130l : Nat} {x131 : Int} {x135p x135o x135l : Nat} {x136 : Int} {x144p x144o x144l : Nat} {x145 : Int} {x146p x146o x146l : Nat} {x147a : Option Addr} {x147n x147c x149p x149o x149l : Nat} {x150 : Int} {x152aa : Option Addr} {x152an x152ac : Nat} {x152b : Bool} {x152c : Int} {H2 : AHeap} {x157 : Int} (h1 : aindexAddr cfg.P 34 (Value.slice x8a x8n x8c) (Value.int .i64 x13) = some (Value.pointer (some ⟨x112p, x112o, some x112l⟩))) (h2 : getCells H x112p x112l x112o 1 = some [Value.int .i64 x113]) (h3 : aindexAddr cfg.P 22 (Value.slice x7a x7n x7c) (Value.int .i64 x113) = some (Value.pointer (some ⟨x114p, x114o, some x114l⟩))) (h4 : getCells H x114p x114l x114o 1 = some [Value.slice x115a x115n x115c]) (h5 : x15 < (↑x115n : Int)) (h6 : x14 = false) (h7 : aindexAddr cfg.P 34 (Value.slice x8a x8n x8c) (Value.int .i64 x13) = some (Value.pointer (some ⟨x125p, x125o, some x125l⟩))) (h8 : getCells H x125p x125l x125o 1 = some [Value.int .i64 x126]) (h9 : aindexAddr cfg.P 22 (Value.slice x7a x7n x7c) (Value.int .i64 x126) = some (Value.pointer (some ⟨x127p, x127o, some x127l⟩))) (h10 : getCells H x127p x127l x127o 1 = some [Value.slice x128a x128n x128c]) (h11 : aindexAddr cfg.P 34 (Value.slice x128a x128n x128c) (Value.int .i64 x15) = some (Value.pointer (some ⟨x130p, x130o, some x130l⟩))) (h12 : getCells H x130p x130l x130o 1 = some [Value.int .i64 x131]) (h13 : Fit .i64 (x13 + 1)) (h14 : aindexAddr cfg.P 34 (Value.slice x8a x8n x8c) (Value.int .i64 (x13 + 1)) = some (Value.pointer (some ⟨x135p, x135o, some x135l⟩))) (h15 : getCells H x135p x135l x135o 1 = some [Value.int .i64 x136]) (h16 : aindexAddr cfg.P 34 (Value.slice x8a x8n x8c) (Value.int .i64 x13) = some (Value.pointer (some ⟨x144p, x144o, some x144l⟩))) (h17 : getCells H x144p x144l x144o 1 = some [Value.int .i64 x145]) (h18 : aindexAddr cfg.P 22 (Value.slice x7a x7n x7c) (Value.int .i64 x145) = some (Value.pointer (some ⟨x146p, x146o, some x146l⟩))) (h19 : getCells H x146p x146l x146o 1 = some [Value.slice x147a x147n x147c]) (h20 : aindexAddr cfg.P 34 (Value.slice x147a x147n x147c) (Value.int .i64 x15) = some (Value.pointer (some ⟨x149p, x149o, some x149l⟩))) (h21 : getCells H x149p x149l x149o 1 = some [Value.int .i64 x150]) (h22 : callInf cfg 21 [Value.slice x7a x7n x7c, Value.int .i64 x150, Value.int .i64 x2] (List.length H0) H = some (Value.tuple { toList := [Value.slice x152aa x152an x152ac, Value.bool x152b, Value.int .i64 x152c] }, H2)) (h23 : callInf cfg 13 [Value.int .i64 x152c] (List.length H0) H2 = some (Value.int .i64 x157, H2)) (h24 : (x157 != 0) = false) (h25 : x152b = true) (h26 : Fit .i64 ((↑x8n : Int) - x13)) (h27 : Fit .i64 ((↑x8n : Int) - x13 - 1)) (h28 : ¬((↑x152an : Int) < (↑x8n : Int) - x13 - 1)) (h29 : ((↑x152an : Int) == (↑x8n : Int) - x13 - 1) = false) (h30 : Fit .i64 (x15 + 1)) : lpOf cfg a5 1 prot H0 ([.int .i64 x2, .slice x7a x7n x7c, .slice x8a x8n x8c, .int .i64 x13, .bool x14, .int .i64 x15], H) = some (Sum.inl ([Value.int .i64 x2, Value.slice x7a x7n x7c, Value.slice x8a x8n x8c, Value.int .i64 x13, Value.bool (x131 == x136), Value.int .i64 (x15 + 1)], H2)) :=
  lp_of2 [.v (.pointer (some ⟨x112p, x112o, some x112l⟩)), .v (.int .i64 x113), .v (.pointer (some ⟨x114p, x114o, some x114l⟩)), .v (.slice x115a x115n x115c), .e, .e, .b true, .b false, .b false, .b false, .b false, .v (.pointer (some ⟨x125p, x125o, some x125l⟩)), .b false, .v (.int .i64 x126), .b false, .v (.pointer (some ⟨x127p, x127o, some x127l⟩)), .b false, .v (.slice x128a x128n x128c), .b false, .b false, .v (.pointer (some ⟨x130p, x130o, some x130l⟩)), .b false, .v (.int .i64 x131), .b false, .b false, .b false, .e, .b false, .v (.pointer (some ⟨x135p, x135o, some x135l⟩)), .b false, .v (.int .i64 x136), .b false, .e, .b false, .v (.pointer (some ⟨x144p, x144o, some x144l⟩)), .v (.int .i64 x145), .v (.pointer (some ⟨x146p, x146o, some x146l⟩)), .v (.slice x147a x147n x147c), .v (.pointer (some ⟨x149p, x149o, some x149l⟩)), .v (.int .i64 x150), .r (.tuple #[.slice x152aa x152an x152ac, .bool x152b, .int .i64 x152c]) H2, .v (.int .i64 x157), .e, .b false, .b false, .b true, .b true, .e, .b true, .b true, .e, .b true, .b true, .e, .b true, .e, .b true, .e, .b false, .b true, .b false, .b false, .b false, .b true, .b true, .e, .b true, .b true, .e, .b true, .b true, .e, .b true, .e, .b true, .e, .b false, .b true, .b false, .b false, .b false, .b false, .b false, .b false, .b false, .b false, .b false, .b false, .b false, .b false, .b false, .b false, .b false, .b false, .b false, .b false, .b false, .b false, .b false, .e] (ai h1 (ai h2 (ai h3 (ai h4 (ai (decide_eq_true h5) (ai h6 (ai h6 (ai h6 (ai h6 (ai h7 (ai h6 (ai h8 (ai h6 (ai h9 (ai h6 (ai h10 (ai h6 (ai h6 (ai h11 (ai h6 (ai h12 (ai h6 (ai h6 (ai h6 (ai h13 (ai h6 (ai h14 (ai h6 (ai h15 (ai h6 (ai h6 (ai h16 (ai h17 (ai h18 (ai h19 (ai h20 (ai h21 (ai h22 (ai h23 (ai h24 (ai h24 (ai h25 (ai h25 (ai h25 (ai h25 (ai h25 (ai h25 (ai h26 (ai h25 (ai h27 (ai h25 (ai h24 (ai h25 (ai h24 (ai (decide_eq_false h28) (ai (decide_eq_false h28) (ai h25 (ai h25 (ai h25 (ai h25 (ai h25 (ai h25 (ai h26 (ai h25 (ai h27 (ai h25 (ai (decide_eq_false h28) (ai h25 (ai (decide_eq_false h28) (ai h29 (ai h29 (ai h29 (ai h29 (ai h29 (ai h29 (ai h29 (ai h29 (ai h29 (ai h29 (ai h29 (ai h29 (ai h29 (ai h29 (ai h29 (ai h29 (ai (decide_eq_false h28) (ai h29 (ai (decide_eq_false h28) (ai (Eq.refl false) (ai h30 (Eq.refl (Sum.inl ([Value.int .i64 x2, Value.slice x7a x7n x7c, Value.slice x8a x8n x8c, Value.int .i64 x13, Value.bool (x131 == x136), Value.int .i64 (x15 + 1)], H2) : LS ⊕ LO)))))))))))))))))))))))))))))))))))))))))))))))))))))))))))))))))))))))))))))))))))))))))))) (by kernel_rfl)
theorem f5_L1_11 {x2 : Int} {x7a : Option Addr} {x7n x7c : Nat} {x8a : Option Addr} {x8n x8c : Nat} {x13 : Int} {x14 : Bool} {x15 : Int} {H0 : AHeap} {prot : Nat} {H : AHeap} {x112p x112o x112l : Nat} {x113 : Int} {x114p x114o x114l : Nat} {x115a : Option Addr} {x115n x115c x125p x125o x125l : Nat} {x126 : Int} {x127p x127o x127l : Nat} {x128a : Option Addr} {x128n x128c x130p x130o x130l : Nat} {x131 : Int} {x135p x135o x135l : Nat} {x136 : Int} {x144p x144o x144l : Nat} {x145 : Int} {x146p x146o x146l : Nat} {x147a : Option Addr} {x147n x147c x149p x149o x149l : Nat} {x150 : Int} {x152aa : Option Addr} {x152an x152ac : Nat} {x152b : Bool} {x152c : Int} {H2 : AHeap} {x157 : Int} (h1 : aindexAddr cfg.P 34 (Value.slice x8a x8n x8c) (Value.int .i64 x13) = some (Value.pointer (some ⟨x112p, x112o, some x112l⟩))) (h2 : getCells H x112p x112l x112o 1 = some [Value.int .i64 x113]) (h3 : aindexAddr cfg.P 22 (Value.slice x7a x7n x7c) (Value.int .i64 x113) = some (Value.pointer (some ⟨x114p, x114o, some x114l⟩))) (h4 : getCells H x114p x114l x114o 1 = some [Value.slice x115a x115n x115c]) (h5 : x15 < (↑x115n : Int)) (h6 : x14 = false) (h7 : aindexAddr cfg.P 34 (Value.slice x8a x8n x8c) (Value.int .i64 x13) = some (Value.pointer (some ⟨x125p, x125o, some x125l⟩))) (h8 : getCells H x125p x125l x125o 1 = some [Value.int .i64 x126]) (h9 : aindexAddr cfg.P 22 (Value.slice x7a x7n x7c) (Value.int .i64 x126) = some (Value.pointer (some ⟨x127p, x127o, some x127l⟩))) (h10 : getCells H x127p x127l x127o 1 = some [Value.slice x128a x128n x128c]) (h11 : aindexAddr cfg.P 34 (Value.slice x128a x128n x128c) (Value.int .i64 x15) = some (Value.pointer (some ⟨x130p, x130o, some x130l⟩))) (h12 : getCells H x130p x130l x130o 1 = some [Value.int .i64 x131]) (h13 : Fit .i64 (x13 + 1)) (h14 : aindexAddr cfg.P 34 (Value.slice x8a x8n x8c) (Value.int .i64 (x13 + 1)) = some (Value.pointer (some ⟨x135p, x135o, some x135l⟩))) (h15 : getCells H x135p x135l x135o 1 = some [Value.int .i64 x136]) (h16 : aindexAddr cfg.P 34 (Value.slice x8a x8n x8c) (Value.int .i64 x13) = some (Value.pointer (some ⟨x144p, x144o, some x144l⟩))) (h17 : getCells H x144p x144l x144o 1 = some [Value.int .i64 x145]) (h18 : aindexAddr cfg.P 22 (Value.slice x7a x7n x7c) (Value.int .i64 x145) = some (Value.pointer (some ⟨x146p, x146o, some x146l⟩))) (h19 : getCells H x146p x146l x146o 1 = some [Value.slice x147a x147n x147c]) (h20 : aindexAddr cfg.P 34 (Value.slice x147a x147n x147c) (Value.int .i64 x15) = some (Value.pointer (some ⟨x149p, x149o, some x149l⟩))) (h21 : getCells H x149p x149l x149o 1 = some [Value.int .i64 x150]) (h22 : callInf cfg 21 [Value.slice x7a x7n x7c, Value.int .i64 x150, Value.int .i64 x2] (List.length H0) H = some (Value.tuple { toList := [Value.slice x152aa x152an x152ac, Value.bool x152b, Value.int .i64 x152c] }, H2)) (h23 : callInf cfg 13 [Value.int .i64 x152c] (List.length H0) H2 = some (Value.int .i64 x157, H2)) (h24 : (x157 != 0) = false) (h25 : x152b = false) (h26 : Fit .i64 (x15 + 1)) : lpOf cfg a5 1 prot H0 ([.int .i64 x2, .slice x7a x7n x7c, .slice x8a x8n x8c, .int .i64 x13, .bool x14, .int .i64 x15], H) = some (Sum.inl ([Value.int .i64 x2, Value.slice x7a x7n x7c, Value.slice x8a x8n x8c, Value.int .i64 x13, Value.bool (x131 == x136), Value.int .i64 (x15 + 1)], H2)) :=
  lp_of2 [.v (.pointer (some ⟨x112p, x112o, some x112l⟩)), .v (.int .i64 x113), .v (.pointer (some ⟨x114p, x114o, some x114l⟩)), .v (.slice x115a x115n x115c), .e, .e, .b true, .b false, .b false, .b false, .b false, .v (.pointer (some ⟨x125p, x125o, some x125l⟩)), .b false, .v (.int .i64 x126), .b false, .v (.pointer (some ⟨x127p, x127o, some x127l⟩)), .b false, .v (.slice x128a x128n x128c), .b false, .b false, .v (.pointer (some ⟨x130p, x130o, some x130l⟩)), .b false, .v (.int .i64 x131), .b false, .b false, .b false, .e, .b false, .v (.pointer (some ⟨x135p, x135o, some x135l⟩)), .b false, .v (.int .i64 x136), .b false, .e, .b false, .v (.pointer (some ⟨x144p, x144o, some x144l⟩)), .v (.int .i64 x145), .v (.pointer (some ⟨x146p, x146o, some x146l⟩)), .v (.slice x147a x147n x147c), .v (.pointer (some ⟨x149p, x149o, some x149l⟩)), .v (.int .i64 x150), .r (.tuple #[.slice x152aa x152an x152ac, .bool x152b, .int .i64 x152c]) H2, .v (.int .i64 x157), .e, .b false, .b false, .b false, .b false, .b false, .b false, .b false, .b false, .b false, .b false, .b false, .b false, .b false, .b false, .b false, .b false, .b false, .b false, .b false, .b false, .b false, .b false, .b false, .b false, .b false, .b false, .b false, .b false, .b false, .b false, .b false, .b false, .b false, .b false, .b false, .b false, .b false, .b false, .b false, .b false, .b false, .b false, .b false, .b false, .b false, .b false, .e] (ai h1 (ai h2 (ai h3 (ai h4 (ai (decide_eq_true h5) (ai h6 (ai h6 (ai h6 (ai h6 (ai h7 (ai h6 (ai h8 (ai h6 (ai h9 (ai h6 (ai h10 (ai h6 (ai h6 (ai h11 (ai h6 (ai h12 (ai h6 (ai h6 (ai h6 (ai h13 (ai h6 (ai h14 (ai h6 (ai h15 (ai h6 (ai h6 (ai h16 (ai h17 (ai h18 (ai h19 (ai h20 (ai h21 (ai h22 (ai h23 (ai h24 (ai h24 (ai h25 (ai h25 (ai h25 (ai h25 (ai h25 (ai h25 (ai h25 (ai h25 (ai h24 (ai h25 (ai h24 (ai (Eq.refl false) (ai (Eq.refl false) (ai h25 (ai h25 (ai h25 (ai h25 (ai h25 (ai h25 (ai h25 (ai h25 (ai (Eq.refl false) (ai h25 (ai (Eq.refl false) (ai (Eq.refl false) (ai (Eq.refl false) (ai (Eq.refl false) (ai (Eq.refl false) (ai (Eq.refl false) (ai (Eq.refl false) (ai (Eq.refl false) (ai (Eq.refl false) (ai (Eq.refl false) (ai (Eq.refl false) (ai (Eq.refl false) (ai (Eq.refl false) (ai (Eq.refl false) (ai (Eq.refl false) (ai (Eq.refl false) (ai (Eq.refl false) (ai (Eq.refl false) (ai (Eq.refl false) (ai (Eq.refl false) (ai (Eq.refl false) (ai h26 (Eq.refl (Sum.inl ([Value.int .i64 x2, Value.slice x7a x7n x7c, Value.slice x8a x8n x8c, Value.int .i64 x13, Value.bool (x131 == x136), Value.int .i64 (x15 + 1)], H2) : LS ⊕ LO)))))))))))))))))))))))))))))))))))))))))))))))))))))))))))))))))))))))))))))))))))))))) (by kernel_rfl)
theorem f5_L1_12 {x2 : Int} {x7a : Option Addr} {x7n x7c : Nat} {x8a : Option Addr} {x8n x8c : Nat} {x13 : Int} {x14 : Bool} {x15 : Int} {H0 : AHeap} {prot : Nat} {H : AHeap} {x112p x112o x112l : Nat} {x113 : Int} {x114p x114o x114l : Nat} {x115a : Option Addr} {x115n x115c : Nat} (h1 : aindexAddr cfg.P 34 (Value.slice x8a x8n x8c) (Value.int .i64 x13) = some (Value.pointer (some ⟨x112p, x112o, some x112l⟩))) (h2 : getCells H x112p x112l x112o 1 = some [Value.int .i64 x113]) (h3 : aindexAddr cfg.P 22 (Value.slice x7a x7n x7c) (Value.int .i64 x113) = some (Value.pointer (some ⟨x114p, x114o, some x114l⟩))) (h4 : getCells H x114p x114l x114o 1 = some [Value.slice x115a x115n x115c]) (h5 : ¬(x15 < (↑x115n : Int))) : lpOf cfg a5 1 prot H0 ([.int .i64 x2, .slice x7a x7n x7c, .slice x8a x8n x8c, .int .i64 x13, .bool x14, .int .i64 x15], H) = some (Sum.inr (Ex.exit 2, [Value.int .i64 x2, Value.tuple { toList := [] }, Value.slice x7a x7n x7c, Value.slice x8a x8n x8c, Value.int .i64 x13, Value.bool x14], H)) :=
  lp_of2 [.v (.pointer (some ⟨x112p, x112o, some x112l⟩)), .v (.int .i64 x113), .v (.pointer (some ⟨x114p, x114o, some x114l⟩)), .v (.slice x115a x115n x115c), .e, .e, .b false] (ai h1 (ai h2 (ai h3 (ai h4 (ai (decide_eq_false h5) (Eq.refl (Sum.inr (Ex.exit 2, [Value.int .i64 x2, Value.tuple { toList := [] }, Value.slice x7a x7n x7c, Value.slice x8a x8n x8c, Value.int .i64 x13, Value.bool x14], H) : LS ⊕ LO))))))) (by kernel_rfl)
end Go.Proofs.Ytkemihfaohkoeaa.Am11
namespace Go.Proofs.Ytkemihfaohkoeaa.Am11
open Go Go.Proofs.Ytkemihfaohkoeaa.Am
theorem pth_head {G : List (List Int)} {t : Nat} : ∀ (k v : Nat), (pth G t k v).getD 0 0 = v
  | 0, _ => rfl
  | _ + 1, _ => rfl
/-- What stands on the way. -/
theorem pth_at {G : List (List Int)} (hG : Good G) {t : Nat} : ∀ (k v i : Nat), v < G.length → dt G t v = k + 1 → i ≤ k →
    (pth G t k v).getD i 0 < G.length ∧ dt G t ((pth G t k v).getD i 0) = k + 1 - i ∧ (i < k → (pth G t k v).getD (i + 1) 0 = nx G t ((pth G t k v).getD i 0))
  | 0, v, i, hv, hd, hi => by
    have : i = 0 := by omega
    subst this
    exact ⟨hv, hd, fun h => by omega⟩
  | k + 1, v, i, hv, hd, hi => by
    obtain ⟨n1, n2, n3, n4⟩ := nx_ok (v := v) (G := G) (fun u hu => (sc_lt hG hu).2) (t := t) (by omega)
    cases i with
    | zero =>
      refine ⟨hv, hd, fun _ => ?_⟩
      show (pth G t k (nx G t v)).getD 0 0 = nx G t v
      exact pth_head _ _
    | succ i =>
      obtain ⟨a, b, c⟩ := pth_at hG (t := t) k (nx G t v) i n3 (by omega) (by omega)
      refine ⟨a, ?_, fun h => c (by omega)⟩
      show dt G t ((pth G t k (nx G t v)).getD i 0) = _
      rw [b]; omega
theorem lens_wit (G : List (List Int)) : lens (wit G) ≤ lens G := by
  have h1 : lens (wit G) = lens (G.take 512) := by
    unfold lens wit
    rw [List.map_map]
    congr 1
    exact List.map_congr_left fun l _ => by simp
  have h2 : lens G = lens (G.take 512) + lens (G.drop 512) := by
    unfold lens
    rw [← List.sum_append, ← List.map_append, List.take_append_drop]
  omega

theorem step5 {G : List (List Int)} (hG : Good G) (hE : lens G ≤ 1048576) (hck : chk G = 0) {H0 G0 : AHeap} {x7 x8 : Value} (hg : Gr G0 x7 G) {t i k prot : Nat} (ht : t < G.length) {P : List Nat} (hP : P.length ≤ 512) (h8 : Rd G0 3 1 x8 P.length (il (nl P))) (hi : i + 1 < P.length) {c : Nat} (hc : P.getD i 0 = c) (hcl : c < G.length) (hcd : dt G t c = P.length - i) (hn : P.getD (i + 1) 0 = nx G t c) (hk : k < G[c].length) (b : Bool) {H : AHeap} (hst : Stay none G0 H) :
    ∃ H2, lpOf cfg a5 1 prot H0 ([.int .i64 t, x7, x8, .int .i64 i, .bool b, .int .i64 k], H) = some (.inl ([.int .i64 t, x7, x8, .int .i64 i, .bool (b || decide ((sc G c).getD k 0 = nx G t c)), .int .i64 ((k : Int) + 1)], H2)) ∧ Stay none G0 H2 := by
  have h5 := hG.1
  have hsh := hG.2.1 _ (List.getElem_mem hcl)
  obtain ⟨w, hwe, hwl, hsc⟩ := sc_get hG hcl hk
  have hwd : (sc G c).getD k 0 = w := by rw [List.getD_eq_getElem?_getD, hsc]; rfl
  rw [hwd]
  have hwm : w ∈ sc G c := List.mem_of_getElem? hsc
  obtain ⟨i1, L1, a1, a2⟩ := rd_at T34 (h8.stay hst) (nl_at (show i < P.length by omega))
  rw [hc] at a2
  obtain ⟨i2, L2, b1, b2⟩ := rd_at T34 (h8.stay hst) (nl_at hi)
  rw [hn] at b2
  obtain ⟨id, L, y, r1, r2, r3⟩ := (hg.stay hst).row hcl
  obtain ⟨i3, L3, d1, d2⟩ := rd_at T34 r3 (il_get hk)
  rw [hwe] at d2
  have fk : Fit .i64 ((k : Int) + 1) := fit64 (by omega) (by omega)
  have fi : Fit .i64 ((i : Int) + 1) := fit64 (by omega) (by omega)
  have b1' : aindexAddr cfg.P 34 x8 (.int .i64 ((i : Int) + 1)) = some (.pointer (some ⟨i2, i + 1, some L2⟩)) := by
    rw [show (i : Int) + 1 = ((i + 1 : Nat) : Int) by omega]; exact b1
  rcases c21 hG hE H0.length (hg.stay hst) hck hwl ht with ⟨e1, e2⟩ | ⟨e1, ebd, x', H2, e2, e3, e4⟩
  · refine ⟨H, ?_, hst⟩
    obtain ⟨_, _, rfl⟩ := hg.len
    obtain ⟨_, _, rfl⟩ := h8.len
    obtain ⟨_, _, rfl⟩ := r3.len
    cases b with
    | true => exact f5_L1_5 a1 a2 r1 r2 (by omega) rfl a1 a2 r1 r2 d1 d2 e2 f13_F_0 rfl rfl fk
    | false =>
      have h := f5_L1_11 (x14 := false) (prot := prot) (H0 := H0) a1 a2 r1 r2 (by omega) rfl a1 a2 r1 r2 d1 d2 fi b1' b2 a1 a2 r1 r2 d1 d2 e2 f13_F_0 rfl rfl fk
      rw [Bool.false_or]
      have eb : ((w : Int) == ((nx G t c : Nat) : Int)) = decide (w = nx G t c) := by rw [Bool.eq_iff_iff, beq_iff_eq, decide_eq_true_eq]; omega
      rw [eb] at h
      exact h
  · have hst2 := hst.trans e4
    have hstep := (dt_step hwm e1).2
    have hle : ¬ ((dt G t w : Int) < (P.length : Int) - i - 1) := by omega
    have f1 : Fit .i64 ((P.length : Int) - i) := fit64 (by omega) (by omega)
    have f2 : Fit .i64 ((P.length : Int) - i - 1) := fit64 (by omega) (by omega)
    obtain ⟨j1, M1, A1, A2⟩ := rd_at T34 (h8.stay hst2) (nl_at (show i < P.length by omega))
    rw [hc] at A2
    obtain ⟨j2, M2, B1, B2⟩ := rd_at T34 (h8.stay hst2) (nl_at hi)
    rw [hn] at B2
    have B1' : aindexAddr cfg.P 34 x8 (.int .i64 ((i : Int) + 1)) = some (.pointer (some ⟨j2, i + 1, some M2⟩)) := by
      rw [show (i : Int) + 1 = ((i + 1 : Nat) : Int) by omega]; exact B1
    obtain ⟨jd, M, y', R1, R2, R3⟩ := (hg.stay hst2).row hcl
    obtain ⟨j3, M3, D1, D2⟩ := rd_at T34 R3 (il_get hk)
    rw [hwe] at D2
    obtain ⟨n1, n2, n3, n4⟩ := nx_ok (v := c) (G := G) (fun u hu => (sc_lt hG hu).2) (t := t) (by omega)
    refine ⟨H2, ?_, hst2⟩
    have hxl := e3.rd.len
    obtain ⟨_, _, rfl⟩ := hg.len
    obtain ⟨_, _, rfl⟩ := h8.len
    obtain ⟨_, _, rfl⟩ := r3.len
    obtain ⟨_, _, rfl⟩ := R3.len
    obtain ⟨_, _, rfl⟩ := hxl
    by_cases heq : dt G t w + 1 = dt G t c
    · have hq : ((dt G t w : Int) == (P.length : Int) - i - 1) = true := by rw [beq_iff_eq]; omega
      have hmin := n4 w hwm heq
      cases b with
      | true => exact f5_L1_3 a1 a2 r1 r2 (by omega) rfl a1 a2 r1 r2 d1 d2 e2 f13_F_0 rfl rfl f1 f2 hle hq A1 A2 R1 R2 D1 D2 fi B1' B2 (by omega) fk
      | false =>
        have h := f5_L1_9 (x14 := false) (prot := prot) (H0 := H0) a1 a2 r1 r2 (by omega) rfl a1 a2 r1 r2 d1 d2 fi b1' b2 a1 a2 r1 r2 d1 d2 e2 f13_F_0 rfl rfl f1 f2 hle hq A1 A2 R1 R2 D1 D2 B1' B2 (by omega) fk
        rw [Bool.false_or]
        have eb : ((w : Int) == ((nx G t c : Nat) : Int)) = decide (w = nx G t c) := by rw [Bool.eq_iff_iff, beq_iff_eq, decide_eq_true_eq]; omega
        rw [eb] at h
        exact h
    · have hq : ((dt G t w : Int) == (P.length : Int) - i - 1) = false := by rw [beq_eq_false_iff_ne]; omega
      cases b with
      | true => exact f5_L1_4 a1 a2 r1 r2 (by omega) rfl a1 a2 r1 r2 d1 d2 e2 f13_F_0 rfl rfl f1 f2 hle hq fk
      | false =>
        have h := f5_L1_10 (x14 := false) (prot := prot) (H0 := H0) a1 a2 r1 r2 (by omega) rfl a1 a2 r1 r2 d1 d2 fi b1' b2 a1 a2 r1 r2 d1 d2 e2 f13_F_0 rfl rfl f1 f2 hle hq fk
        rw [Bool.false_or]
        have eb : ((w : Int) == ((nx G t c : Nat) : Int)) = decide (w = nx G t c) := by rw [Bool.eq_iff_iff, beq_iff_eq, decide_eq_true_eq]; omega
        rw [eb] at h
        exact h
theorem loop5i {G : List (List Int)} (hG : Good G) (hE : lens G ≤ 1048576) (hck : chk G = 0) {H0 G0 : AHeap} {x7 x8 : Value} (hg : Gr G0 x7 G) {t i prot : Nat} (ht : t < G.length) {P : List Nat} (hP : P.length ≤ 512) (h8 : Rd G0 3 1 x8 P.length (il (nl P))) (hi : i + 1 < P.length) {c : Nat} (hc : P.getD i 0 = c) (hcl : c < G.length) (hcd : dt G t c = P.length - i) (hn : P.getD (i + 1) 0 = nx G t c) : ∀ (d k : Nat) (b : Bool) (H : AHeap), k + d = G[c].length → Stay none G0 H → (b = true ∨ ∃ j, k ≤ j ∧ j < G[c].length ∧ (sc G c).getD j 0 = nx G t c) →
    ∃ H2, lpInf (lpOf cfg a5 1 prot H0) ([.int .i64 t, x7, x8, .int .i64 i, .bool b, .int .i64 k], H) = some (.exit 2, [.int .i64 t, .tuple #[], x7, x8, .int .i64 i, .bool true], H2) ∧ Stay none G0 H2
  | 0, k, b, H, hk, hst, hb => by
    have hbt : b = true := by
      rcases hb with h | ⟨j, h1, h2, _⟩
      · exact h
      · omega
    subst hbt
    obtain ⟨i1, L1, a1, a2⟩ := rd_at T34 (h8.stay hst) (nl_at (show i < P.length by omega))
    rw [hc] at a2
    obtain ⟨id, L, y, r1, r2, r3⟩ := (hg.stay hst).row hcl
    refine ⟨H, ?_, hst⟩
    obtain ⟨_, _, rfl⟩ := hg.len
    obtain ⟨_, _, rfl⟩ := h8.len
    obtain ⟨_, _, rfl⟩ := r3.len
    exact lp_last (f5_L1_12 a1 a2 r1 r2 (by omega))
  | d + 1, k, b, H, hk, hst, hb => by
    obtain ⟨H2, z1, z2⟩ := step5 hG hE hck (H0 := H0) hg (prot := prot) ht hP h8 hi hc hcl hcd hn (show k < G[c].length by omega) b hst
    obtain ⟨H3, y1, y2⟩ := loop5i hG hE hck (H0 := H0) hg (prot := prot) ht hP h8 hi hc hcl hcd hn d (k + 1) (b || decide ((sc G c).getD k 0 = nx G t c)) H2 (by omega) z2 (by
      rcases hb with rfl | ⟨j, h1, h2, h3⟩
      · exact .inl (Bool.true_or _)
      · by_cases e : j = k
        · subst e
          rw [decide_eq_true h3]
          exact .inl (Bool.or_true _)
        · exact .inr ⟨j, by omega, h2, h3⟩)
    exact ⟨H3, lp_next z1 y1, y2⟩
theorem loop5o {G : List (List Int)} (hG : Good G) (hE : lens G ≤ 1048576) (hck : chk G = 0) {H0 G0 : AHeap} {x7 x8 : Value} (hg : Gr G0 x7 G) {t u K prot : Nat} (ht : t < G.length) (hu : u < G.length) (hd : dt G t u = K + 1) (hK : K + 1 ≤ 512) (h8 : Rd G0 3 1 x8 (K + 1) (il (nl (pth G t K u)))) : ∀ (d i : Nat) (H : AHeap), i + d = K → Stay none G0 H →
    ∃ H2, lpInf (lpOf cfg a5 0 prot H0) ([.int .i64 t, x7, x8, .int .i64 i], H) = some (.exit 0, [.tuple #[]], H2)
  | 0, i, H, hi, hst => by
    obtain ⟨_, _, rfl⟩ := hg.len
    obtain ⟨_, _, rfl⟩ := h8.len
    exact ⟨H, lp_last (f5_L0_3 (fit64 (by omega) (by omega)) (by omega))⟩
  | d + 1, i, H, hi, hst => by
    obtain ⟨p1, p2, p3⟩ := pth_at hG K u i hu hd (by omega)
    have hpl := pth_len (G := G) (t := t) K u
    obtain ⟨n1, n2, n3, n4⟩ := nx_ok (v := (pth G t K u).getD i 0) (G := G) (fun u hu => (sc_lt hG hu).2) (t := t) (by omega)
    obtain ⟨j, hj⟩ := List.getElem?_of_mem n1
    have hjl := (List.getElem?_eq_some_iff.1 hj).1
    rw [sc_len p1] at hjl
    obtain ⟨H1, z1, z2⟩ := loop5i hG hE hck (H0 := H0) hg (prot := prot) (i := i) ht (P := pth G t K u) (by omega) (by rw [hpl]; exact h8) (by omega) rfl p1 (by omega) (p3 (by omega)) G[(pth G t K u).getD i 0].length 0 false H (by omega) hst (.inr ⟨j, by omega, hjl, by rw [List.getD_eq_getElem?_getD, hj]; rfl⟩)
    obtain ⟨H2, y1⟩ := loop5o hG hE hck (H0 := H0) hg (prot := prot) ht hu hd hK h8 d (i + 1) H1 (by omega) z2
    refine ⟨H2, ?_⟩
    obtain ⟨_, _, rfl⟩ := hg.len
    obtain ⟨_, _, rfl⟩ := h8.len
    exact lp_next (f5_L0_0 (fit64 (by omega) (by omega)) (by omega) z1 rfl (fit64 (by omega) (by omega))) y1

theorem law5 {G : List (List Int)} {x0 : Value} (x1 x2 : Int) (hs : Short8 G) (hE0 : lens G ≤ 1048576) (prot : Nat) (H : AHeap) (hg : Gr H x0 G) : callInf cfg 5 [x0, .int .i64 x1, .int .i64 x2] prot H = some (.bool true, H) := by
  obtain ⟨x', H1, w1, w2, w3⟩ := c17 hs H.length hg
  have hxl := w2.len
  have hk := cKnows H.length H1
  have hEW := lens_wit G
  obtain ⟨W, hW⟩ : ∃ W, wit G = W := ⟨_, rfl⟩
  have hchk := wit_chk G
  have hsW := wit_short hs
  have hW5 : W.length ≤ 512 := by rw [← hW, wit_len]; omega
  rw [hW] at w2 hxl hchk hsW hEW
  have hG := good_of hsW hchk
  have hE : lens W ≤ 1048576 := by omega
  obtain ⟨aG, cG, rfl⟩ := hg.len
  by_cases h0 : W.length = 0
  · obtain ⟨ax, cx, rfl⟩ := hxl
    exact f5_F_0 w1 (by rw [beq_iff_eq]; omega) hk
  · have tm : ∀ z : Int, ∃ t : Nat, (z.tmod (W.length : Int) + (W.length : Int)).tmod (W.length : Int) = t ∧ t < W.length ∧ Fit .i64 (z.tmod (W.length : Int) + (W.length : Int)) := fun z => by
      have h1 : -(W.length : Int) < z.tmod W.length := Int.lt_tmod_of_pos z (by omega)
      have h2 := Int.tmod_lt_of_pos z (show (0 : Int) < W.length by omega)
      have h3 : 0 ≤ (z.tmod (W.length : Int) + (W.length : Int)).tmod (W.length : Int) := Int.tmod_nonneg _ (by omega)
      have h4 := Int.tmod_lt_of_pos (z.tmod (W.length : Int) + (W.length : Int)) (show (0 : Int) < W.length by omega)
      exact ⟨((z.tmod (W.length : Int) + (W.length : Int)).tmod (W.length : Int)).toNat, by omega, by omega, fit64 (by omega) (by omega)⟩
    obtain ⟨u, hu, hul, fu⟩ := tm x1
    obtain ⟨v, hv, hvl, fv⟩ := tm x2
    have hz : ((((W.length : Nat) : Int)) == 0) = false := by rw [beq_eq_false_iff_ne]; omega
    have hne0 : ((W.length : Nat) : Int) ≠ 0 := by omega
    have hrV : reachV W (u : Int) = (rs W u, 0) := by
      unfold reachV
      rw [if_neg (by simp [hchk]), if_neg (by omega), Int.toNat_natCast]
    have hiff : rs W u v = true ↔ 0 < dt W v u := by rw [rs_iff, dt_rs]
    have f1 : Fit .i64 ((0 : Int) + 0) := fit64 (by omega) (by omega)
    rcases c21 hG hE H.length w2 hchk hul hvl with ⟨e1, e2⟩ | ⟨e1, ebd, p, H2, e2, e3, e4⟩
    · have hr := c19 hsW (u : Int) H.length w2
      rw [hrV] at hr
      obtain ⟨HA, H4, b1, b2, b3, b4, b5⟩ := slot0 (rs W u) H1 w3.1
      have h20 := c20 (S := rs W u) (show v < 512 by omega) H.length H4
      have hrf : rs W u v = false := by rw [Bool.eq_false_iff]; intro h; have := hiff.1 h; omega
      rw [hrf] at h20
      obtain ⟨ax, cx, rfl⟩ := hxl
      rw [← hu] at hr e2
      rw [← hv] at h20 e2
      exact f5_F_8 (x60a := setA (rs W u)) (x71 := setA (rs W u)) w1 hz hk rfl hne0 fu fv e2 hr b1 (setL_len _) b2 f13_F_0 f13_F_0 f1 (by simp) (arr_all b3 (setL_len _)) h20 rfl rfl
    · have hr := c19 hsW (u : Int) H.length (w2.stay e4)
      rw [hrV] at hr
      have hl2 : H.length ≤ H2.length := Nat.le_trans w3.1 e4.1
      obtain ⟨HA, H4, b1, b2, b3, b4, b5⟩ := slot0 (rs W u) H2 hl2
      have h20 := c20 (S := rs W u) (show v < 512 by omega) H.length H4
      rw [hiff.2 e1] at h20
      have hp := (e3.stay b4).rd
      obtain ⟨K, hK⟩ : ∃ K, dt W v u = K + 1 := ⟨dt W v u - 1, by omega⟩
      rw [hK, Nat.add_sub_cancel] at hp
      have hpl := pth_len (G := W) (t := v) K u
      obtain ⟨i1, L1, a1, a2⟩ := rd_at T34 hp (show (il (nl (pth W v K u)))[0]? = _ from nl_at (by omega))
      rw [pth_head] at a2
      obtain ⟨i2, L2, c1, c2⟩ := rd_last T34 hp (nl_at (show K < (pth W v K u).length by omega))
      have hlast : (pth W v K u).getD K 0 = v := by
        have := (pth_at hG K u K hul hK (Nat.le_refl _)).2.1
        exact dt_one (G := W) (by omega)
      rw [hlast] at c2
      obtain ⟨H5, hlp⟩ := loop5o hG hE hchk (H0 := H) (w2.stay (e4.trans b4)) (prot := prot) hvl hul hK (by omega) hp K 0 H4 (by omega) (Stay.refl _ _)
      have hpln := hp.len
      obtain ⟨ax, cx, rfl⟩ := hxl
      obtain ⟨ap, cp, rfl⟩ := hpln
      rw [← hu] at hr e2
      rw [← hv] at h20 e2 hlp
      exact f5_F_6 (x60a := setA (rs W u)) (x71 := setA (rs W u)) (x87 := (u : Int)) (x97 := (v : Int)) w1 hz hk rfl hne0 fu fv e2 hr b1 (setL_len _) b2 f13_F_0 f13_F_0 f1 (by simp) (arr_all b3 (setL_len _)) h20 rfl rfl (by rw [beq_eq_false_iff_ne]; omega) a1 a2 (by rw [hu]; simp) (fit64 (by omega) (by omega)) c1 c2 (by rw [hv]; simp) hlp
end Go.Proofs.Ytkemihfaohkoeaa.Am11
