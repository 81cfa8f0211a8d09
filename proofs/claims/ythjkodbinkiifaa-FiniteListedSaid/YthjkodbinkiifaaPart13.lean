/- A part of the proof of a given statement: P23_47, Sp23_C47, P23_4, P23_15, Law23_4, P23_40, P23_18, Sp23_C18, P23_21, P23_43, Sp23_C21, P23_58, P23_66, Sp23_C66, P23_48, Sp23_C48, P23_49, Sp23_C49, Sp23_W1, Sp23_W2, P23_23, Sp23_C23, P23_24, Sp23_C24, P23_3, Law23_3, Sp23_W3, P23_28, P23_52, P23_70. No condition. -/
import Derived.Test.YthjkodbinkiifaaPart12
set_option linter.unusedVariables false
open Go Go.Proofs.Ythjkodbinkiifaa.Am
namespace Go.Proofs.Ythjkodbinkiifaa.Am23
theorem f47_F_0 {x0a : Int} {x0ba : Option Addr} {x0bn x0bc : Nat} {x0ca : Option Addr} {x0cn x0cc x1ap x1ao x1al : Nat} {x2 : Int} {x3 : ByteArray} {x4 : Int} {x5a : Option Addr} {x5n x5c : Nat} {H : AHeap} {prot : Nat} {x23 : Bool} {H1 : AHeap} {z5a : Option Addr} {z5n z5c : Nat} {z12 : Value} {H2 : AHeap} (h1 : [Value.int .i64 x0a, Value.slice x0ba x0bn x0bc, Value.slice x0ca x0cn x0cc].all isCell = true) (h2 : callInf cfg 46 [Value.int .i64 0, Value.int .i64 x2, Value.pointer (some ⟨x1ap, x1ao, some x1al⟩)] prot (H ++ [vo [Value.int .i64 x0a, Value.slice x0ba x0bn x0bc, Value.slice x0ca x0cn x0cc] 25] ++ [wo [Value.int .i64 0] 3]) = some (Value.bool x23, H1)) (h3 : (!x23) = false) (h4 : (!x3.toList == []) = true) (h5 : (0 : Int) ≤ 0) (h6 : 0 < (↑x3.size : Int)) (h7 : Fit .i64 (IntKind.u8.wrap ((↑(x3.get! (Int.toNat 0)).toNat : Int) - 97))) (h8 : lpInf (lpOf cfg a47 0 prot H) ([Value.func (Fn.func 46) { toList := [] } { toList := [Value.pointer (some ⟨x1ap, x1ao, some x1al⟩)] }, Value.int .i64 x2, Value.string x3, Value.int .i64 x4, Value.slice x5a x5n x5c, Value.pointer (some ⟨List.length H, 0, some [Value.int .i64 x0a, Value.slice x0ba x0bn x0bc, Value.slice x0ca x0cn x0cc].length⟩), Value.slice (some ⟨List.length (H ++ [vo [Value.int .i64 x0a, Value.slice x0ba x0bn x0bc, Value.slice x0ca x0cn x0cc] 25]), 0, some (1 * 1)⟩) 1 1, Value.slice none 0 0, Value.bool !x3.toList == [], Value.int .i64 (IntKind.u8.wrap ((↑(x3.get! (Int.toNat 0)).toNat : Int) - 97))], H1) = some (Ex.exit 0, [Value.slice z5a z5n z5c, z12], H2)) : callInf cfg 47 [.agg #[.int .i64 x0a, .slice x0ba x0bn x0bc, .slice x0ca x0cn x0cc], .func (.func 46) #[] #[.pointer (some ⟨x1ap, x1ao, some x1al⟩)], .int .i64 x2, .string x3, .int .i64 x4, .slice x5a x5n x5c] prot H = some (Value.slice z5a z5n z5c, H2) :=
  fn_of2 a47 [.e, .e, .e, .r (.bool x23) H1, .e, .b false, .b true, .e, .e, .e, .lo (.exit 0, [.slice z5a z5n z5c, z12], H2)] (ai h1 (ai h2 (ai h3 (ai h4 (ai h5 (ai h6 (ai h7 (ai h8 (Eq.refl ((Value.slice z5a z5n z5c, H2) : Value × AHeap)))))))))) (by kernel_rfl) rfl
theorem f47_F_1 {x0a : Int} {x0ba : Option Addr} {x0bn x0bc : Nat} {x0ca : Option Addr} {x0cn x0cc x1ap x1ao x1al : Nat} {x2 : Int} {x3 : ByteArray} {x4 : Int} {x5a : Option Addr} {x5n x5c : Nat} {H : AHeap} {prot : Nat} {x23 : Bool} {H1 : AHeap} {z5 : Value} {z12a : Option Addr} {z12n z12c : Nat} {H2 : AHeap} (h1 : [Value.int .i64 x0a, Value.slice x0ba x0bn x0bc, Value.slice x0ca x0cn x0cc].all isCell = true) (h2 : callInf cfg 46 [Value.int .i64 0, Value.int .i64 x2, Value.pointer (some ⟨x1ap, x1ao, some x1al⟩)] prot (H ++ [vo [Value.int .i64 x0a, Value.slice x0ba x0bn x0bc, Value.slice x0ca x0cn x0cc] 25] ++ [wo [Value.int .i64 0] 3]) = some (Value.bool x23, H1)) (h3 : (!x23) = false) (h4 : (!x3.toList == []) = true) (h5 : (0 : Int) ≤ 0) (h6 : 0 < (↑x3.size : Int)) (h7 : Fit .i64 (IntKind.u8.wrap ((↑(x3.get! (Int.toNat 0)).toNat : Int) - 97))) (h8 : lpInf (lpOf cfg a47 0 prot H) ([Value.func (Fn.func 46) { toList := [] } { toList := [Value.pointer (some ⟨x1ap, x1ao, some x1al⟩)] }, Value.int .i64 x2, Value.string x3, Value.int .i64 x4, Value.slice x5a x5n x5c, Value.pointer (some ⟨List.length H, 0, some [Value.int .i64 x0a, Value.slice x0ba x0bn x0bc, Value.slice x0ca x0cn x0cc].length⟩), Value.slice (some ⟨List.length (H ++ [vo [Value.int .i64 x0a, Value.slice x0ba x0bn x0bc, Value.slice x0ca x0cn x0cc] 25]), 0, some (1 * 1)⟩) 1 1, Value.slice none 0 0, Value.bool !x3.toList == [], Value.int .i64 (IntKind.u8.wrap ((↑(x3.get! (Int.toNat 0)).toNat : Int) - 97))], H1) = some (Ex.ret, [z5, Value.slice z12a z12n z12c], H2)) : callInf cfg 47 [.agg #[.int .i64 x0a, .slice x0ba x0bn x0bc, .slice x0ca x0cn x0cc], .func (.func 46) #[] #[.pointer (some ⟨x1ap, x1ao, some x1al⟩)], .int .i64 x2, .string x3, .int .i64 x4, .slice x5a x5n x5c] prot H = some (Value.slice z12a z12n z12c, H2) :=
  fn_of2 a47 [.e, .e, .e, .r (.bool x23) H1, .e, .b false, .b true, .e, .e, .e, .lo (.ret, [z5, .slice z12a z12n z12c], H2)] (ai h1 (ai h2 (ai h3 (ai h4 (ai h5 (ai h6 (ai h7 (ai h8 (Eq.refl ((Value.slice z12a z12n z12c, H2) : Value × AHeap)))))))))) (by kernel_rfl) rfl
theorem f47_F_2 {x0a : Int} {x0ba : Option Addr} {x0bn x0bc : Nat} {x0ca : Option Addr} {x0cn x0cc x1ap x1ao x1al : Nat} {x2 : Int} {x3 : ByteArray} {x4 : Int} {x5a : Option Addr} {x5n x5c : Nat} {H : AHeap} {prot : Nat} {x23 : Bool} {H1 : AHeap} {z5a : Option Addr} {z5n z5c : Nat} {z12 : Value} {H2 : AHeap} (h1 : [Value.int .i64 x0a, Value.slice x0ba x0bn x0bc, Value.slice x0ca x0cn x0cc].all isCell = true) (h2 : callInf cfg 46 [Value.int .i64 0, Value.int .i64 x2, Value.pointer (some ⟨x1ap, x1ao, some x1al⟩)] prot (H ++ [vo [Value.int .i64 x0a, Value.slice x0ba x0bn x0bc, Value.slice x0ca x0cn x0cc] 25] ++ [wo [Value.int .i64 0] 3]) = some (Value.bool x23, H1)) (h3 : (!x23) = false) (h4 : (!x3.toList == []) = false) (h5 : lpInf (lpOf cfg a47 0 prot H) ([Value.func (Fn.func 46) { toList := [] } { toList := [Value.pointer (some ⟨x1ap, x1ao, some x1al⟩)] }, Value.int .i64 x2, Value.string x3, Value.int .i64 x4, Value.slice x5a x5n x5c, Value.pointer (some ⟨List.length H, 0, some [Value.int .i64 x0a, Value.slice x0ba x0bn x0bc, Value.slice x0ca x0cn x0cc].length⟩), Value.slice (some ⟨List.length (H ++ [vo [Value.int .i64 x0a, Value.slice x0ba x0bn x0bc, Value.slice x0ca x0cn x0cc] 25]), 0, some (1 * 1)⟩) 1 1, Value.slice none 0 0, Value.bool !x3.toList == [], Value.int .i64 0], H1) = some (Ex.exit 0, [Value.slice z5a z5n z5c, z12], H2)) : callInf cfg 47 [.agg #[.int .i64 x0a, .slice x0ba x0bn x0bc, .slice x0ca x0cn x0cc], .func (.func 46) #[] #[.pointer (some ⟨x1ap, x1ao, some x1al⟩)], .int .i64 x2, .string x3, .int .i64 x4, .slice x5a x5n x5c] prot H = some (Value.slice z5a z5n z5c, H2) :=
  fn_of2 a47 [.e, .e, .e, .r (.bool x23) H1, .e, .b false, .b false, .lo (.exit 0, [.slice z5a z5n z5c, z12], H2)] (ai h1 (ai h2 (ai h3 (ai h4 (ai h5 (Eq.refl ((Value.slice z5a z5n z5c, H2) : Value × AHeap))))))) (by kernel_rfl) rfl
theorem f47_F_3 {x0a : Int} {x0ba : Option Addr} {x0bn x0bc : Nat} {x0ca : Option Addr} {x0cn x0cc x1ap x1ao x1al : Nat} {x2 : Int} {x3 : ByteArray} {x4 : Int} {x5a : Option Addr} {x5n x5c : Nat} {H : AHeap} {prot : Nat} {x23 : Bool} {H1 : AHeap} {z5 : Value} {z12a : Option Addr} {z12n z12c : Nat} {H2 : AHeap} (h1 : [Value.int .i64 x0a, Value.slice x0ba x0bn x0bc, Value.slice x0ca x0cn x0cc].all isCell = true) (h2 : callInf cfg 46 [Value.int .i64 0, Value.int .i64 x2, Value.pointer (some ⟨x1ap, x1ao, some x1al⟩)] prot (H ++ [vo [Value.int .i64 x0a, Value.slice x0ba x0bn x0bc, Value.slice x0ca x0cn x0cc] 25] ++ [wo [Value.int .i64 0] 3]) = some (Value.bool x23, H1)) (h3 : (!x23) = false) (h4 : (!x3.toList == []) = false) (h5 : lpInf (lpOf cfg a47 0 prot H) ([Value.func (Fn.func 46) { toList := [] } { toList := [Value.pointer (some ⟨x1ap, x1ao, some x1al⟩)] }, Value.int .i64 x2, Value.string x3, Value.int .i64 x4, Value.slice x5a x5n x5c, Value.pointer (some ⟨List.length H, 0, some [Value.int .i64 x0a, Value.slice x0ba x0bn x0bc, Value.slice x0ca x0cn x0cc].length⟩), Value.slice (some ⟨List.length (H ++ [vo [Value.int .i64 x0a, Value.slice x0ba x0bn x0bc, Value.slice x0ca x0cn x0cc] 25]), 0, some (1 * 1)⟩) 1 1, Value.slice none 0 0, Value.bool !x3.toList == [], Value.int .i64 0], H1) = some (Ex.ret, [z5, Value.slice z12a z12n z12c], H2)) : callInf cfg 47 [.agg #[.int .i64 x0a, .slice x0ba x0bn x0bc, .slice x0ca x0cn x0cc], .func (.func 46) #[] #[.pointer (some ⟨x1ap, x1ao, some x1al⟩)], .int .i64 x2, .string x3, .int .i64 x4, .slice x5a x5n x5c] prot H = some (Value.slice z12a z12n z12c, H2) :=
  fn_of2 a47 [.e, .e, .e, .r (.bool x23) H1, .e, .b false, .b false, .lo (.ret, [z5, .slice z12a z12n z12c], H2)] (ai h1 (ai h2 (ai h3 (ai h4 (ai h5 (Eq.refl ((Value.slice z12a z12n z12c, H2) : Value × AHeap))))))) (by kernel_rfl) rfl
theorem f47_F_4 {x0a : Int} {x0ba : Option Addr} {x0bn x0bc : Nat} {x0ca : Option Addr} {x0cn x0cc x1ap x1ao x1al : Nat} {x2 : Int} {x3 : ByteArray} {x4 : Int} {x5a : Option Addr} {x5n x5c : Nat} {H : AHeap} {prot : Nat} {x23 : Bool} {H1 : AHeap} (h1 : [Value.int .i64 x0a, Value.slice x0ba x0bn x0bc, Value.slice x0ca x0cn x0cc].all isCell = true) (h2 : callInf cfg 46 [Value.int .i64 0, Value.int .i64 x2, Value.pointer (some ⟨x1ap, x1ao, some x1al⟩)] prot (H ++ [vo [Value.int .i64 x0a, Value.slice x0ba x0bn x0bc, Value.slice x0ca x0cn x0cc] 25] ++ [wo [Value.int .i64 0] 3]) = some (Value.bool x23, H1)) (h3 : (!x23) = true) : callInf cfg 47 [.agg #[.int .i64 x0a, .slice x0ba x0bn x0bc, .slice x0ca x0cn x0cc], .func (.func 46) #[] #[.pointer (some ⟨x1ap, x1ao, some x1al⟩)], .int .i64 x2, .string x3, .int .i64 x4, .slice x5a x5n x5c] prot H = some (Value.slice x5a x5n x5c, H1) :=
  fn_of2 a47 [.e, .e, .e, .r (.bool x23) H1, .e, .b true] (ai h1 (ai h2 (ai h3 (Eq.refl ((Value.slice x5a x5n x5c, H1) : Value × AHeap))))) (by kernel_rfl) rfl
theorem f47_L0_0 {x1ap x1ao x1al : Nat} {x2 : Int} {x3 : ByteArray} {x4 : Int} {x5a : Option Addr} {x5n x5c x6p x6o x6l : Nat} {x13a : Option Addr} {x13n x13c : Nat} {x14a : Option Addr} {x14n x14c : Nat} {x15 : Bool} {x16 : Int} {H0 : AHeap} {prot : Nat} {H : AHeap} {x41 : ByteArray} {x43a : Option Addr} {x43n x43c : Nat} {H2 : AHeap} (h1 : (↑x5n : Int) < x4) (h2 : ((↑x14n : Int) == x2) = true) (h3 : aconv cfg.P 104 9 (Value.slice x14a x14n x14c) H = some (Value.string x41)) (h4 : aappend cfg.P prot true 43 43 (Value.slice x5a x5n x5c) (Value.slice (some ⟨List.length H, 0, some (1 * 1)⟩) 1 1) (H ++ [wo [Value.string x41] 9]) = some (Value.slice x43a x43n x43c, H2)) (h5 : ((↑x14n : Int) == 0) = true) : lpOf cfg a47 0 prot H0 ([.func (.func 46) #[] #[.pointer (some ⟨x1ap, x1ao, some x1al⟩)], .int .i64 x2, .string x3, .int .i64 x4, .slice x5a x5n x5c, .pointer (some ⟨x6p, x6o, some x6l⟩), .slice x13a x13n x13c, .slice x14a x14n x14c, .bool x15, .int .i64 x16], H) = some (Sum.inr (Ex.ret, [Value.slice x43a x43n x43c, Value.slice x43a x43n x43c], H2)) :=
  lp_of2 [.e, .e, .b true, .e, .e, .b true, .v (.string x41), .e, .r (.slice x43a x43n x43c) H2, .e, .e, .b true] (ai (decide_eq_true h1) (ai h2 (ai h3 (ai h4 (ai h5 (Eq.refl (Sum.inr (Ex.ret, [Value.slice x43a x43n x43c, Value.slice x43a x43n x43c], H2) : LS ⊕ LO))))))) (by kernel_rfl)
theorem f47_L0_1 {x1ap x1ao x1al : Nat} {x2 : Int} {x3 : ByteArray} {x4 : Int} {x5a : Option Addr} {x5n x5c x6p x6o x6l : Nat} {x13a : Option Addr} {x13n x13c : Nat} {x14a : Option Addr} {x14n x14c : Nat} {x15 : Bool} {x16 : Int} {H0 : AHeap} {prot : Nat} {H : AHeap} {x41 : ByteArray} {x43a : Option Addr} {x43n x43c : Nat} {H2 : AHeap} {x136p x136o x136l : Nat} {x137 : Int} {x145a : Option Addr} {x145n x145c : Nat} {x150a : Option Addr} {x150n x150c : Nat} (h1 : (↑x5n : Int) < x4) (h2 : ((↑x14n : Int) == x2) = true) (h3 : aconv cfg.P 104 9 (Value.slice x14a x14n x14c) H = some (Value.string x41)) (h4 : aappend cfg.P prot true 43 43 (Value.slice x5a x5n x5c) (Value.slice (some ⟨List.length H, 0, some (1 * 1)⟩) 1 1) (H ++ [wo [Value.string x41] 9]) = some (Value.slice x43a x43n x43c, H2)) (h5 : ((↑x14n : Int) == 0) = false) (h6 : Fit .i64 ((↑x14n : Int) - 1)) (h7 : aindexAddr cfg.P 104 (Value.slice x14a x14n x14c) (Value.int .i64 ((↑x14n : Int) - 1)) = some (Value.pointer (some ⟨x136p, x136o, some x136l⟩))) (h8 : getCells H2 x136p x136l x136o 1 = some [Value.int .u8 x137]) (h9 : Fit .i64 (IntKind.u8.wrap (x137 - 97))) (h10 : Fit .i64 (IntKind.u8.wrap (x137 - 97) + 1)) (h11 : aslice cfg.P 104 (Value.slice x14a x14n x14c) none (some (Value.int .i64 ((↑x14n : Int) - 1))) none H2 = some (Value.slice x145a x145n x145c)) (h12 : Fit .i64 ((↑x13n : Int) - 1)) (h13 : aslice cfg.P 22 (Value.slice x13a x13n x13c) none (some (Value.int .i64 ((↑x13n : Int) - 1))) none H2 = some (Value.slice x150a x150n x150c)) : lpOf cfg a47 0 prot H0 ([.func (.func 46) #[] #[.pointer (some ⟨x1ap, x1ao, some x1al⟩)], .int .i64 x2, .string x3, .int .i64 x4, .slice x5a x5n x5c, .pointer (some ⟨x6p, x6o, some x6l⟩), .slice x13a x13n x13c, .slice x14a x14n x14c, .bool x15, .int .i64 x16], H) = some (Sum.inl ([Value.func (Fn.func 46) { toList := [] } { toList := [Value.pointer (some ⟨x1ap, x1ao, some x1al⟩)] }, Value.int .i64 x2, Value.string x3, Value.int .i64 x4, Value.slice x43a x43n x43c, Value.pointer (some ⟨x6p, x6o, some x6l⟩), Value.slice x150a x150n x150c, Value.slice x145a x145n x145c, Value.bool false, Value.int .i64 (IntKind.u8.wrap (x137 - 97) + 1)], H2)) :=
  lp_of2 [.e, .e, .b true, .e, .e, .b true, .v (.string x41), .e, .r (.slice x43a x43n x43c) H2, .e, .e, .b false, .e, .e, .v (.pointer (some ⟨x136p, x136o, some x136l⟩)), .v (.int .u8 x137), .e, .e, .e, .e, .e, .v (.slice x145a x145n x145c), .e, .e, .v (.slice x150a x150n x150c)] (ai (decide_eq_true h1) (ai h2 (ai h3 (ai h4 (ai h5 (ai h6 (ai h7 (ai h8 (ai h9 (ai h10 (ai h6 (ai h11 (ai h12 (ai h13 (Eq.refl (Sum.inl ([Value.func (Fn.func 46) { toList := [] } { toList := [Value.pointer (some ⟨x1ap, x1ao, some x1al⟩)] }, Value.int .i64 x2, Value.string x3, Value.int .i64 x4, Value.slice x43a x43n x43c, Value.pointer (some ⟨x6p, x6o, some x6l⟩), Value.slice x150a x150n x150c, Value.slice x145a x145n x145c, Value.bool false, Value.int .i64 (IntKind.u8.wrap (x137 - 97) + 1)], H2) : LS ⊕ LO)))))))))))))))) (by kernel_rfl)
theorem f47_L0_2 {x1ap x1ao x1al : Nat} {x2 : Int} {x3 : ByteArray} {x4 : Int} {x5a : Option Addr} {x5n x5c x6p x6o x6l : Nat} {x13a : Option Addr} {x13n x13c : Nat} {x14a : Option Addr} {x14n x14c : Nat} {x15 : Bool} {x16 : Int} {H0 : AHeap} {prot : Nat} {H : AHeap} {z1ap z1ao z1al : Nat} {z2 : Int} {z3 : ByteArray} {z4 : Int} {z5a : Option Addr} {z5n z5c z6p z6o z6l : Nat} {z13a : Option Addr} {z13n z13c : Nat} {z14a : Option Addr} {z14n z14c : Nat} {z15 : Bool} {z17 : Int} {H2 : AHeap} {x78 : Int} {x93a : Option Addr} {x93n x93c x98p x98o x98l : Nat} {x99 x101 : Int} {x105p x105o x105l : Nat} {x106 : Int} {x108a : Option Addr} {x108n x108c : Nat} {H3 : AHeap} {x114a : Option Addr} {x114n x114c : Nat} {H4 : AHeap} (h1 : (↑x5n : Int) < x4) (h2 : ((↑x14n : Int) == x2) = false) (h3 : lpInf (lpOf cfg a47 1 prot H0) ([Value.func (Fn.func 46) { toList := [] } { toList := [Value.pointer (some ⟨x1ap, x1ao, some x1al⟩)] }, Value.int .i64 x2, Value.string x3, Value.int .i64 x4, Value.slice x5a x5n x5c, Value.pointer (some ⟨x6p, x6o, some x6l⟩), Value.slice x13a x13n x13c, Value.slice x14a x14n x14c, Value.bool x15, Value.int .i64 x16], H) = some (Ex.exit 2, [Value.func (Fn.func 46) { toList := [] } { toList := [Value.pointer (some ⟨z1ap, z1ao, some z1al⟩)] }, Value.int .i64 z2, Value.string z3, Value.int .i64 z4, Value.slice z5a z5n z5c, Value.pointer (some ⟨z6p, z6o, some z6l⟩), Value.slice z13a z13n z13c, Value.slice z14a z14n z14c, Value.bool z15, Value.int .i64 z17], H2)) (h4 : getCells H2 z6p z6l (z6o + 0) 1 = some [Value.int .i64 x78]) (h5 : z17 < x78) (h6 : z15 = true) (h7 : 0 ≤ (↑z14n : Int)) (h8 : (↑z14n : Int) < (↑z3.size : Int)) (h9 : Fit .i64 (IntKind.u8.wrap ((↑(z3.get! (↑z14n : Int).toNat).toNat : Int) - 97))) (h10 : getCells H2 z6p z6l (z6o + 1) 1 = some [Value.slice x93a x93n x93c]) (h11 : Fit .i64 ((↑z13n : Int) - 1)) (h12 : aindexAddr cfg.P 22 (Value.slice z13a z13n z13c) (Value.int .i64 ((↑z13n : Int) - 1)) = some (Value.pointer (some ⟨x98p, x98o, some x98l⟩))) (h13 : getCells H2 x98p x98l x98o 1 = some [Value.int .i64 x99]) (h14 : getCells H2 z6p z6l (z6o + 0) 1 = some [Value.int .i64 x101]) (h15 : Fit .i64 (x99 * x101)) (h16 : Fit .i64 (x99 * x101 + z17)) (h17 : aindexAddr cfg.P 22 (Value.slice x93a x93n x93c) (Value.int .i64 (x99 * x101 + z17)) = some (Value.pointer (some ⟨x105p, x105o, some x105l⟩))) (h18 : getCells H2 x105p x105l x105o 1 = some [Value.int .i64 x106]) (h19 : aappend cfg.P prot true 22 22 (Value.slice z13a z13n z13c) (Value.slice (some ⟨List.length H2, 0, some (1 * 1)⟩) 1 1) (H2 ++ [wo [Value.int .i64 x106] 3]) = some (Value.slice x108a x108n x108c, H3)) (h20 : Fit .i64 (97 + z17)) (h21 : aappend cfg.P prot true 104 104 (Value.slice z14a z14n z14c) (Value.slice (some ⟨List.length H3, 0, some (1 * 1)⟩) 1 1) (H3 ++ [wo [Value.int .u8 (IntKind.u8.wrap (97 + z17))] 5]) = some (Value.slice x114a x114n x114c, H4)) (h22 : (z17 == IntKind.u8.wrap ((↑(z3.get! (↑z14n : Int).toNat).toNat : Int) - 97)) = true) (h23 : (↑x114n : Int) < z2) (h24 : 0 ≤ (↑x114n : Int)) (h25 : (↑x114n : Int) < (↑z3.size : Int)) (h26 : Fit .i64 (IntKind.u8.wrap ((↑(z3.get! (↑x114n : Int).toNat).toNat : Int) - 97))) : lpOf cfg a47 0 prot H0 ([.func (.func 46) #[] #[.pointer (some ⟨x1ap, x1ao, some x1al⟩)], .int .i64 x2, .string x3, .int .i64 x4, .slice x5a x5n x5c, .pointer (some ⟨x6p, x6o, some x6l⟩), .slice x13a x13n x13c, .slice x14a x14n x14c, .bool x15, .int .i64 x16], H) = some (Sum.inl ([Value.func (Fn.func 46) { toList := [] } { toList := [Value.pointer (some ⟨z1ap, z1ao, some z1al⟩)] }, Value.int .i64 z2, Value.string z3, Value.int .i64 z4, Value.slice z5a z5n z5c, Value.pointer (some ⟨z6p, z6o, some z6l⟩), Value.slice x108a x108n x108c, Value.slice x114a x114n x114c, Value.bool (z17 == IntKind.u8.wrap ((↑(z3.get! (↑z14n : Int).toNat).toNat : Int) - 97)), Value.int .i64 (IntKind.u8.wrap ((↑(z3.get! (↑x114n : Int).toNat).toNat : Int) - 97))], H4)) :=
  lp_of2 [.e, .e, .b true, .e, .e, .b false, .lo (.exit 2, [.func (.func 46) #[] #[.pointer (some ⟨z1ap, z1ao, some z1al⟩)], .int .i64 z2, .string z3, .int .i64 z4, .slice z5a z5n z5c, .pointer (some ⟨z6p, z6o, some z6l⟩), .slice z13a z13n z13c, .slice z14a z14n z14c, .bool z15, .int .i64 z17], H2), .v (.int .i64 x78), .e, .b true, .b true, .b true, .b true, .b true, .e, .b true, .e, .b true, .e, .b true, .e, .b true, .e, .b true, .v (.slice x93a x93n x93c), .e, .e, .v (.pointer (some ⟨x98p, x98o, some x98l⟩)), .v (.int .i64 x99), .v (.int .i64 x101), .e, .e, .v (.pointer (some ⟨x105p, x105o, some x105l⟩)), .v (.int .i64 x106), .e, .r (.slice x108a x108n x108c) H3, .e, .e, .e, .r (.slice x114a x114n x114c) H4, .b true, .b true, .e, .b true, .b true, .e, .b true, .b true, .e, .e, .e, .e] (ai (decide_eq_true h1) (ai h2 (ai h3 (ai h4 (ai (decide_eq_true h5) (ai h6 (ai h6 (ai h6 (ai h6 (ai h6 (ai h7 (ai h8 (ai h6 (ai h6 (ai h9 (ai h6 (ai h6 (ai h10 (ai h11 (ai h12 (ai h13 (ai h14 (ai h15 (ai h16 (ai h17 (ai h18 (ai h19 (ai h20 (ai h21 (ai h22 (ai h22 (ai h22 (ai h22 (ai h22 (ai (decide_eq_true h23) (ai h24 (ai h25 (ai h26 (Eq.refl (Sum.inl ([Value.func (Fn.func 46) { toList := [] } { toList := [Value.pointer (some ⟨z1ap, z1ao, some z1al⟩)] }, Value.int .i64 z2, Value.string z3, Value.int .i64 z4, Value.slice z5a z5n z5c, Value.pointer (some ⟨z6p, z6o, some z6l⟩), Value.slice x108a x108n x108c, Value.slice x114a x114n x114c, Value.bool (z17 == IntKind.u8.wrap ((↑(z3.get! (↑z14n : Int).toNat).toNat : Int) - 97)), Value.int .i64 (IntKind.u8.wrap ((↑(z3.get! (↑x114n : Int).toNat).toNat : Int) - 97))], H4) : LS ⊕ LO)))))))))))))))))))))))))))))))))))))))) (by kernel_rfl)
theorem f47_L0_3 {x1ap x1ao x1al : Nat} {x2 : Int} {x3 : ByteArray} {x4 : Int} {x5a : Option Addr} {x5n x5c x6p x6o x6l : Nat} {x13a : Option Addr} {x13n x13c : Nat} {x14a : Option Addr} {x14n x14c : Nat} {x15 : Bool} {x16 : Int} {H0 : AHeap} {prot : Nat} {H : AHeap} {z1ap z1ao z1al : Nat} {z2 : Int} {z3 : ByteArray} {z4 : Int} {z5a : Option Addr} {z5n z5c z6p z6o z6l : Nat} {z13a : Option Addr} {z13n z13c : Nat} {z14a : Option Addr} {z14n z14c : Nat} {z15 : Bool} {z17 : Int} {H2 : AHeap} {x78 : Int} {x93a : Option Addr} {x93n x93c x98p x98o x98l : Nat} {x99 x101 : Int} {x105p x105o x105l : Nat} {x106 : Int} {x108a : Option Addr} {x108n x108c : Nat} {H3 : AHeap} {x114a : Option Addr} {x114n x114c : Nat} {H4 : AHeap} (h1 : (↑x5n : Int) < x4) (h2 : ((↑x14n : Int) == x2) = false) (h3 : lpInf (lpOf cfg a47 1 prot H0) ([Value.func (Fn.func 46) { toList := [] } { toList := [Value.pointer (some ⟨x1ap, x1ao, some x1al⟩)] }, Value.int .i64 x2, Value.string x3, Value.int .i64 x4, Value.slice x5a x5n x5c, Value.pointer (some ⟨x6p, x6o, some x6l⟩), Value.slice x13a x13n x13c, Value.slice x14a x14n x14c, Value.bool x15, Value.int .i64 x16], H) = some (Ex.exit 2, [Value.func (Fn.func 46) { toList := [] } { toList := [Value.pointer (some ⟨z1ap, z1ao, some z1al⟩)] }, Value.int .i64 z2, Value.string z3, Value.int .i64 z4, Value.slice z5a z5n z5c, Value.pointer (some ⟨z6p, z6o, some z6l⟩), Value.slice z13a z13n z13c, Value.slice z14a z14n z14c, Value.bool z15, Value.int .i64 z17], H2)) (h4 : getCells H2 z6p z6l (z6o + 0) 1 = some [Value.int .i64 x78]) (h5 : z17 < x78) (h6 : z15 = true) (h7 : 0 ≤ (↑z14n : Int)) (h8 : (↑z14n : Int) < (↑z3.size : Int)) (h9 : Fit .i64 (IntKind.u8.wrap ((↑(z3.get! (↑z14n : Int).toNat).toNat : Int) - 97))) (h10 : getCells H2 z6p z6l (z6o + 1) 1 = some [Value.slice x93a x93n x93c]) (h11 : Fit .i64 ((↑z13n : Int) - 1)) (h12 : aindexAddr cfg.P 22 (Value.slice z13a z13n z13c) (Value.int .i64 ((↑z13n : Int) - 1)) = some (Value.pointer (some ⟨x98p, x98o, some x98l⟩))) (h13 : getCells H2 x98p x98l x98o 1 = some [Value.int .i64 x99]) (h14 : getCells H2 z6p z6l (z6o + 0) 1 = some [Value.int .i64 x101]) (h15 : Fit .i64 (x99 * x101)) (h16 : Fit .i64 (x99 * x101 + z17)) (h17 : aindexAddr cfg.P 22 (Value.slice x93a x93n x93c) (Value.int .i64 (x99 * x101 + z17)) = some (Value.pointer (some ⟨x105p, x105o, some x105l⟩))) (h18 : getCells H2 x105p x105l x105o 1 = some [Value.int .i64 x106]) (h19 : aappend cfg.P prot true 22 22 (Value.slice z13a z13n z13c) (Value.slice (some ⟨List.length H2, 0, some (1 * 1)⟩) 1 1) (H2 ++ [wo [Value.int .i64 x106] 3]) = some (Value.slice x108a x108n x108c, H3)) (h20 : Fit .i64 (97 + z17)) (h21 : aappend cfg.P prot true 104 104 (Value.slice z14a z14n z14c) (Value.slice (some ⟨List.length H3, 0, some (1 * 1)⟩) 1 1) (H3 ++ [wo [Value.int .u8 (IntKind.u8.wrap (97 + z17))] 5]) = some (Value.slice x114a x114n x114c, H4)) (h22 : (z17 == IntKind.u8.wrap ((↑(z3.get! (↑z14n : Int).toNat).toNat : Int) - 97)) = true) (h23 : ¬((↑x114n : Int) < z2)) : lpOf cfg a47 0 prot H0 ([.func (.func 46) #[] #[.pointer (some ⟨x1ap, x1ao, some x1al⟩)], .int .i64 x2, .string x3, .int .i64 x4, .slice x5a x5n x5c, .pointer (some ⟨x6p, x6o, some x6l⟩), .slice x13a x13n x13c, .slice x14a x14n x14c, .bool x15, .int .i64 x16], H) = some (Sum.inl ([Value.func (Fn.func 46) { toList := [] } { toList := [Value.pointer (some ⟨z1ap, z1ao, some z1al⟩)] }, Value.int .i64 z2, Value.string z3, Value.int .i64 z4, Value.slice z5a z5n z5c, Value.pointer (some ⟨z6p, z6o, some z6l⟩), Value.slice x108a x108n x108c, Value.slice x114a x114n x114c, Value.bool (z17 == IntKind.u8.wrap ((↑(z3.get! (↑z14n : Int).toNat).toNat : Int) - 97)), Value.int .i64 0], H4)) :=
  lp_of2 [.e, .e, .b true, .e, .e, .b false, .lo (.exit 2, [.func (.func 46) #[] #[.pointer (some ⟨z1ap, z1ao, some z1al⟩)], .int .i64 z2, .string z3, .int .i64 z4, .slice z5a z5n z5c, .pointer (some ⟨z6p, z6o, some z6l⟩), .slice z13a z13n z13c, .slice z14a z14n z14c, .bool z15, .int .i64 z17], H2), .v (.int .i64 x78), .e, .b true, .b true, .b true, .b true, .b true, .e, .b true, .e, .b true, .e, .b true, .e, .b true, .e, .b true, .v (.slice x93a x93n x93c), .e, .e, .v (.pointer (some ⟨x98p, x98o, some x98l⟩)), .v (.int .i64 x99), .v (.int .i64 x101), .e, .e, .v (.pointer (some ⟨x105p, x105o, some x105l⟩)), .v (.int .i64 x106), .e, .r (.slice x108a x108n x108c) H3, .e, .e, .e, .r (.slice x114a x114n x114c) H4, .b true, .b true, .e, .b true, .b true, .e, .b true, .b false] (ai (decide_eq_true h1) (ai h2 (ai h3 (ai h4 (ai (decide_eq_true h5) (ai h6 (ai h6 (ai h6 (ai h6 (ai h6 (ai h7 (ai h8 (ai h6 (ai h6 (ai h9 (ai h6 (ai h6 (ai h10 (ai h11 (ai h12 (ai h13 (ai h14 (ai h15 (ai h16 (ai h17 (ai h18 (ai h19 (ai h20 (ai h21 (ai h22 (ai h22 (ai h22 (ai h22 (ai h22 (ai (decide_eq_false h23) (Eq.refl (Sum.inl ([Value.func (Fn.func 46) { toList := [] } { toList := [Value.pointer (some ⟨z1ap, z1ao, some z1al⟩)] }, Value.int .i64 z2, Value.string z3, Value.int .i64 z4, Value.slice z5a z5n z5c, Value.pointer (some ⟨z6p, z6o, some z6l⟩), Value.slice x108a x108n x108c, Value.slice x114a x114n x114c, Value.bool (z17 == IntKind.u8.wrap ((↑(z3.get! (↑z14n : Int).toNat).toNat : Int) - 97)), Value.int .i64 0], H4) : LS ⊕ LO))))))))))))))))))))))))))))))))))))) (by kernel_rfl)
theorem f47_L0_4 {x1ap x1ao x1al : Nat} {x2 : Int} {x3 : ByteArray} {x4 : Int} {x5a : Option Addr} {x5n x5c x6p x6o x6l : Nat} {x13a : Option Addr} {x13n x13c : Nat} {x14a : Option Addr} {x14n x14c : Nat} {x15 : Bool} {x16 : Int} {H0 : AHeap} {prot : Nat} {H : AHeap} {z1ap z1ao z1al : Nat} {z2 : Int} {z3 : ByteArray} {z4 : Int} {z5a : Option Addr} {z5n z5c z6p z6o z6l : Nat} {z13a : Option Addr} {z13n z13c : Nat} {z14a : Option Addr} {z14n z14c : Nat} {z15 : Bool} {z17 : Int} {H2 : AHeap} {x78 : Int} {x93a : Option Addr} {x93n x93c x98p x98o x98l : Nat} {x99 x101 : Int} {x105p x105o x105l : Nat} {x106 : Int} {x108a : Option Addr} {x108n x108c : Nat} {H3 : AHeap} {x114a : Option Addr} {x114n x114c : Nat} {H4 : AHeap} (h1 : (↑x5n : Int) < x4) (h2 : ((↑x14n : Int) == x2) = false) (h3 : lpInf (lpOf cfg a47 1 prot H0) ([Value.func (Fn.func 46) { toList := [] } { toList := [Value.pointer (some ⟨x1ap, x1ao, some x1al⟩)] }, Value.int .i64 x2, Value.string x3, Value.int .i64 x4, Value.slice x5a x5n x5c, Value.pointer (some ⟨x6p, x6o, some x6l⟩), Value.slice x13a x13n x13c, Value.slice x14a x14n x14c, Value.bool x15, Value.int .i64 x16], H) = some (Ex.exit 2, [Value.func (Fn.func 46) { toList := [] } { toList := [Value.pointer (some ⟨z1ap, z1ao, some z1al⟩)] }, Value.int .i64 z2, Value.string z3, Value.int .i64 z4, Value.slice z5a z5n z5c, Value.pointer (some ⟨z6p, z6o, some z6l⟩), Value.slice z13a z13n z13c, Value.slice z14a z14n z14c, Value.bool z15, Value.int .i64 z17], H2)) (h4 : getCells H2 z6p z6l (z6o + 0) 1 = some [Value.int .i64 x78]) (h5 : z17 < x78) (h6 : z15 = true) (h7 : 0 ≤ (↑z14n : Int)) (h8 : (↑z14n : Int) < (↑z3.size : Int)) (h9 : Fit .i64 (IntKind.u8.wrap ((↑(z3.get! (↑z14n : Int).toNat).toNat : Int) - 97))) (h10 : getCells H2 z6p z6l (z6o + 1) 1 = some [Value.slice x93a x93n x93c]) (h11 : Fit .i64 ((↑z13n : Int) - 1)) (h12 : aindexAddr cfg.P 22 (Value.slice z13a z13n z13c) (Value.int .i64 ((↑z13n : Int) - 1)) = some (Value.pointer (some ⟨x98p, x98o, some x98l⟩))) (h13 : getCells H2 x98p x98l x98o 1 = some [Value.int .i64 x99]) (h14 : getCells H2 z6p z6l (z6o + 0) 1 = some [Value.int .i64 x101]) (h15 : Fit .i64 (x99 * x101)) (h16 : Fit .i64 (x99 * x101 + z17)) (h17 : aindexAddr cfg.P 22 (Value.slice x93a x93n x93c) (Value.int .i64 (x99 * x101 + z17)) = some (Value.pointer (some ⟨x105p, x105o, some x105l⟩))) (h18 : getCells H2 x105p x105l x105o 1 = some [Value.int .i64 x106]) (h19 : aappend cfg.P prot true 22 22 (Value.slice z13a z13n z13c) (Value.slice (some ⟨List.length H2, 0, some (1 * 1)⟩) 1 1) (H2 ++ [wo [Value.int .i64 x106] 3]) = some (Value.slice x108a x108n x108c, H3)) (h20 : Fit .i64 (97 + z17)) (h21 : aappend cfg.P prot true 104 104 (Value.slice z14a z14n z14c) (Value.slice (some ⟨List.length H3, 0, some (1 * 1)⟩) 1 1) (H3 ++ [wo [Value.int .u8 (IntKind.u8.wrap (97 + z17))] 5]) = some (Value.slice x114a x114n x114c, H4)) (h22 : (z17 == IntKind.u8.wrap ((↑(z3.get! (↑z14n : Int).toNat).toNat : Int) - 97)) = false) : lpOf cfg a47 0 prot H0 ([.func (.func 46) #[] #[.pointer (some ⟨x1ap, x1ao, some x1al⟩)], .int .i64 x2, .string x3, .int .i64 x4, .slice x5a x5n x5c, .pointer (some ⟨x6p, x6o, some x6l⟩), .slice x13a x13n x13c, .slice x14a x14n x14c, .bool x15, .int .i64 x16], H) = some (Sum.inl ([Value.func (Fn.func 46) { toList := [] } { toList := [Value.pointer (some ⟨z1ap, z1ao, some z1al⟩)] }, Value.int .i64 z2, Value.string z3, Value.int .i64 z4, Value.slice z5a z5n z5c, Value.pointer (some ⟨z6p, z6o, some z6l⟩), Value.slice x108a x108n x108c, Value.slice x114a x114n x114c, Value.bool (z17 == IntKind.u8.wrap ((↑(z3.get! (↑z14n : Int).toNat).toNat : Int) - 97)), Value.int .i64 0], H4)) :=
  lp_of2 [.e, .e, .b true, .e, .e, .b false, .lo (.exit 2, [.func (.func 46) #[] #[.pointer (some ⟨z1ap, z1ao, some z1al⟩)], .int .i64 z2, .string z3, .int .i64 z4, .slice z5a z5n z5c, .pointer (some ⟨z6p, z6o, some z6l⟩), .slice z13a z13n z13c, .slice z14a z14n z14c, .bool z15, .int .i64 z17], H2), .v (.int .i64 x78), .e, .b true, .b true, .b true, .b true, .b true, .e, .b true, .e, .b true, .e, .b true, .e, .b true, .e, .b true, .v (.slice x93a x93n x93c), .e, .e, .v (.pointer (some ⟨x98p, x98o, some x98l⟩)), .v (.int .i64 x99), .v (.int .i64 x101), .e, .e, .v (.pointer (some ⟨x105p, x105o, some x105l⟩)), .v (.int .i64 x106), .e, .r (.slice x108a x108n x108c) H3, .e, .e, .e, .r (.slice x114a x114n x114c) H4, .b false, .b false, .b false, .b false, .b false, .b false] (ai (decide_eq_true h1) (ai h2 (ai h3 (ai h4 (ai (decide_eq_true h5) (ai h6 (ai h6 (ai h6 (ai h6 (ai h6 (ai h7 (ai h8 (ai h6 (ai h6 (ai h9 (ai h6 (ai h6 (ai h10 (ai h11 (ai h12 (ai h13 (ai h14 (ai h15 (ai h16 (ai h17 (ai h18 (ai h19 (ai h20 (ai h21 (ai h22 (ai h22 (ai h22 (ai h22 (ai h22 (ai (Eq.refl false) (Eq.refl (Sum.inl ([Value.func (Fn.func 46) { toList := [] } { toList := [Value.pointer (some ⟨z1ap, z1ao, some z1al⟩)] }, Value.int .i64 z2, Value.string z3, Value.int .i64 z4, Value.slice z5a z5n z5c, Value.pointer (some ⟨z6p, z6o, some z6l⟩), Value.slice x108a x108n x108c, Value.slice x114a x114n x114c, Value.bool (z17 == IntKind.u8.wrap ((↑(z3.get! (↑z14n : Int).toNat).toNat : Int) - 97)), Value.int .i64 0], H4) : LS ⊕ LO))))))))))))))))))))))))))))))))))))) (by kernel_rfl)
theorem f47_L0_5 {x1ap x1ao x1al : Nat} {x2 : Int} {x3 : ByteArray} {x4 : Int} {x5a : Option Addr} {x5n x5c x6p x6o x6l : Nat} {x13a : Option Addr} {x13n x13c : Nat} {x14a : Option Addr} {x14n x14c : Nat} {x15 : Bool} {x16 : Int} {H0 : AHeap} {prot : Nat} {H : AHeap} {z1ap z1ao z1al : Nat} {z2 : Int} {z3 : ByteArray} {z4 : Int} {z5a : Option Addr} {z5n z5c z6p z6o z6l : Nat} {z13a : Option Addr} {z13n z13c : Nat} {z14a : Option Addr} {z14n z14c : Nat} {z15 : Bool} {z17 : Int} {H2 : AHeap} {x78 : Int} {x93a : Option Addr} {x93n x93c x98p x98o x98l : Nat} {x99 x101 : Int} {x105p x105o x105l : Nat} {x106 : Int} {x108a : Option Addr} {x108n x108c : Nat} {H3 : AHeap} {x114a : Option Addr} {x114n x114c : Nat} {H4 : AHeap} (h1 : (↑x5n : Int) < x4) (h2 : ((↑x14n : Int) == x2) = false) (h3 : lpInf (lpOf cfg a47 1 prot H0) ([Value.func (Fn.func 46) { toList := [] } { toList := [Value.pointer (some ⟨x1ap, x1ao, some x1al⟩)] }, Value.int .i64 x2, Value.string x3, Value.int .i64 x4, Value.slice x5a x5n x5c, Value.pointer (some ⟨x6p, x6o, some x6l⟩), Value.slice x13a x13n x13c, Value.slice x14a x14n x14c, Value.bool x15, Value.int .i64 x16], H) = some (Ex.exit 2, [Value.func (Fn.func 46) { toList := [] } { toList := [Value.pointer (some ⟨z1ap, z1ao, some z1al⟩)] }, Value.int .i64 z2, Value.string z3, Value.int .i64 z4, Value.slice z5a z5n z5c, Value.pointer (some ⟨z6p, z6o, some z6l⟩), Value.slice z13a z13n z13c, Value.slice z14a z14n z14c, Value.bool z15, Value.int .i64 z17], H2)) (h4 : getCells H2 z6p z6l (z6o + 0) 1 = some [Value.int .i64 x78]) (h5 : z17 < x78) (h6 : z15 = false) (h7 : getCells H2 z6p z6l (z6o + 1) 1 = some [Value.slice x93a x93n x93c]) (h8 : Fit .i64 ((↑z13n : Int) - 1)) (h9 : aindexAddr cfg.P 22 (Value.slice z13a z13n z13c) (Value.int .i64 ((↑z13n : Int) - 1)) = some (Value.pointer (some ⟨x98p, x98o, some x98l⟩))) (h10 : getCells H2 x98p x98l x98o 1 = some [Value.int .i64 x99]) (h11 : getCells H2 z6p z6l (z6o + 0) 1 = some [Value.int .i64 x101]) (h12 : Fit .i64 (x99 * x101)) (h13 : Fit .i64 (x99 * x101 + z17)) (h14 : aindexAddr cfg.P 22 (Value.slice x93a x93n x93c) (Value.int .i64 (x99 * x101 + z17)) = some (Value.pointer (some ⟨x105p, x105o, some x105l⟩))) (h15 : getCells H2 x105p x105l x105o 1 = some [Value.int .i64 x106]) (h16 : aappend cfg.P prot true 22 22 (Value.slice z13a z13n z13c) (Value.slice (some ⟨List.length H2, 0, some (1 * 1)⟩) 1 1) (H2 ++ [wo [Value.int .i64 x106] 3]) = some (Value.slice x108a x108n x108c, H3)) (h17 : Fit .i64 (97 + z17)) (h18 : aappend cfg.P prot true 104 104 (Value.slice z14a z14n z14c) (Value.slice (some ⟨List.length H3, 0, some (1 * 1)⟩) 1 1) (H3 ++ [wo [Value.int .u8 (IntKind.u8.wrap (97 + z17))] 5]) = some (Value.slice x114a x114n x114c, H4)) : lpOf cfg a47 0 prot H0 ([.func (.func 46) #[] #[.pointer (some ⟨x1ap, x1ao, some x1al⟩)], .int .i64 x2, .string x3, .int .i64 x4, .slice x5a x5n x5c, .pointer (some ⟨x6p, x6o, some x6l⟩), .slice x13a x13n x13c, .slice x14a x14n x14c, .bool x15, .int .i64 x16], H) = some (Sum.inl ([Value.func (Fn.func 46) { toList := [] } { toList := [Value.pointer (some ⟨z1ap, z1ao, some z1al⟩)] }, Value.int .i64 z2, Value.string z3, Value.int .i64 z4, Value.slice z5a z5n z5c, Value.pointer (some ⟨z6p, z6o, some z6l⟩), Value.slice x108a x108n x108c, Value.slice x114a x114n x114c, Value.bool false, Value.int .i64 0], H4)) :=
  lp_of2 [.e, .e, .b true, .e, .e, .b false, .lo (.exit 2, [.func (.func 46) #[] #[.pointer (some ⟨z1ap, z1ao, some z1al⟩)], .int .i64 z2, .string z3, .int .i64 z4, .slice z5a z5n z5c, .pointer (some ⟨z6p, z6o, some z6l⟩), .slice z13a z13n z13c, .slice z14a z14n z14c, .bool z15, .int .i64 z17], H2), .v (.int .i64 x78), .e, .b true, .b false, .b false, .b false, .b false, .b false, .b false, .b false, .b false, .b false, .v (.slice x93a x93n x93c), .e, .e, .v (.pointer (some ⟨x98p, x98o, some x98l⟩)), .v (.int .i64 x99), .v (.int .i64 x101), .e, .e, .v (.pointer (some ⟨x105p, x105o, some x105l⟩)), .v (.int .i64 x106), .e, .r (.slice x108a x108n x108c) H3, .e, .e, .e, .r (.slice x114a x114n x114c) H4, .b false, .b false, .b false, .b false, .b false, .b false] (ai (decide_eq_true h1) (ai h2 (ai h3 (ai h4 (ai (decide_eq_true h5) (ai h6 (ai h6 (ai h6 (ai h6 (ai h6 (ai h6 (ai h6 (ai h6 (ai h6 (ai h7 (ai h8 (ai h9 (ai h10 (ai h11 (ai h12 (ai h13 (ai h14 (ai h15 (ai h16 (ai h17 (ai h18 (ai (Eq.refl false) (ai (Eq.refl false) (ai (Eq.refl false) (ai (Eq.refl false) (ai (Eq.refl false) (ai (Eq.refl false) (Eq.refl (Sum.inl ([Value.func (Fn.func 46) { toList := [] } { toList := [Value.pointer (some ⟨z1ap, z1ao, some z1al⟩)] }, Value.int .i64 z2, Value.string z3, Value.int .i64 z4, Value.slice z5a z5n z5c, Value.pointer (some ⟨z6p, z6o, some z6l⟩), Value.slice x108a x108n x108c, Value.slice x114a x114n x114c, Value.bool false, Value.int .i64 0], H4) : LS ⊕ LO)))))))))))))))))))))))))))))))))) (by kernel_rfl)
theorem f47_L0_6 {x1ap x1ao x1al : Nat} {x2 : Int} {x3 : ByteArray} {x4 : Int} {x5a : Option Addr} {x5n x5c x6p x6o x6l : Nat} {x13a : Option Addr} {x13n x13c : Nat} {x14a : Option Addr} {x14n x14c : Nat} {x15 : Bool} {x16 : Int} {H0 : AHeap} {prot : Nat} {H : AHeap} {z1ap z1ao z1al : Nat} {z2 : Int} {z3 : ByteArray} {z4 : Int} {z5a : Option Addr} {z5n z5c z6p z6o z6l : Nat} {z13a : Option Addr} {z13n z13c : Nat} {z14a : Option Addr} {z14n z14c : Nat} {z15 : Bool} {z17 : Int} {H2 : AHeap} {x78 : Int} (h1 : (↑x5n : Int) < x4) (h2 : ((↑x14n : Int) == x2) = false) (h3 : lpInf (lpOf cfg a47 1 prot H0) ([Value.func (Fn.func 46) { toList := [] } { toList := [Value.pointer (some ⟨x1ap, x1ao, some x1al⟩)] }, Value.int .i64 x2, Value.string x3, Value.int .i64 x4, Value.slice x5a x5n x5c, Value.pointer (some ⟨x6p, x6o, some x6l⟩), Value.slice x13a x13n x13c, Value.slice x14a x14n x14c, Value.bool x15, Value.int .i64 x16], H) = some (Ex.exit 2, [Value.func (Fn.func 46) { toList := [] } { toList := [Value.pointer (some ⟨z1ap, z1ao, some z1al⟩)] }, Value.int .i64 z2, Value.string z3, Value.int .i64 z4, Value.slice z5a z5n z5c, Value.pointer (some ⟨z6p, z6o, some z6l⟩), Value.slice z13a z13n z13c, Value.slice z14a z14n z14c, Value.bool z15, Value.int .i64 z17], H2)) (h4 : getCells H2 z6p z6l (z6o + 0) 1 = some [Value.int .i64 x78]) (h5 : ¬(z17 < x78)) (h6 : ((↑z14n : Int) == 0) = true) : lpOf cfg a47 0 prot H0 ([.func (.func 46) #[] #[.pointer (some ⟨x1ap, x1ao, some x1al⟩)], .int .i64 x2, .string x3, .int .i64 x4, .slice x5a x5n x5c, .pointer (some ⟨x6p, x6o, some x6l⟩), .slice x13a x13n x13c, .slice x14a x14n x14c, .bool x15, .int .i64 x16], H) = some (Sum.inr (Ex.ret, [Value.slice z5a z5n z5c, Value.slice z5a z5n z5c], H2)) :=
  lp_of2 [.e, .e, .b true, .e, .e, .b false, .lo (.exit 2, [.func (.func 46) #[] #[.pointer (some ⟨z1ap, z1ao, some z1al⟩)], .int .i64 z2, .string z3, .int .i64 z4, .slice z5a z5n z5c, .pointer (some ⟨z6p, z6o, some z6l⟩), .slice z13a z13n z13c, .slice z14a z14n z14c, .bool z15, .int .i64 z17], H2), .v (.int .i64 x78), .e, .b false, .e, .e, .b true] (ai (decide_eq_true h1) (ai h2 (ai h3 (ai h4 (ai (decide_eq_false h5) (ai h6 (Eq.refl (Sum.inr (Ex.ret, [Value.slice z5a z5n z5c, Value.slice z5a z5n z5c], H2) : LS ⊕ LO)))))))) (by kernel_rfl)
theorem f47_L0_7 {x1ap x1ao x1al : Nat} {x2 : Int} {x3 : ByteArray} {x4 : Int} {x5a : Option Addr} {x5n x5c x6p x6o x6l : Nat} {x13a : Option Addr} {x13n x13c : Nat} {x14a : Option Addr} {x14n x14c : Nat} {x15 : Bool} {x16 : Int} {H0 : AHeap} {prot : Nat} {H : AHeap} {z1ap z1ao z1al : Nat} {z2 : Int} {z3 : ByteArray} {z4 : Int} {z5a : Option Addr} {z5n z5c z6p z6o z6l : Nat} {z13a : Option Addr} {z13n z13c : Nat} {z14a : Option Addr} {z14n z14c : Nat} {z15 : Bool} {z17 : Int} {H2 : AHeap} {x78 : Int} {x136p x136o x136l : Nat} {x137 : Int} {x145a : Option Addr} {x145n x145c : Nat} {x150a : Option Addr} {x150n x150c : Nat} (h1 : (↑x5n : Int) < x4) (h2 : ((↑x14n : Int) == x2) = false) (h3 : lpInf (lpOf cfg a47 1 prot H0) ([Value.func (Fn.func 46) { toList := [] } { toList := [Value.pointer (some ⟨x1ap, x1ao, some x1al⟩)] }, Value.int .i64 x2, Value.string x3, Value.int .i64 x4, Value.slice x5a x5n x5c, Value.pointer (some ⟨x6p, x6o, some x6l⟩), Value.slice x13a x13n x13c, Value.slice x14a x14n x14c, Value.bool x15, Value.int .i64 x16], H) = some (Ex.exit 2, [Value.func (Fn.func 46) { toList := [] } { toList := [Value.pointer (some ⟨z1ap, z1ao, some z1al⟩)] }, Value.int .i64 z2, Value.string z3, Value.int .i64 z4, Value.slice z5a z5n z5c, Value.pointer (some ⟨z6p, z6o, some z6l⟩), Value.slice z13a z13n z13c, Value.slice z14a z14n z14c, Value.bool z15, Value.int .i64 z17], H2)) (h4 : getCells H2 z6p z6l (z6o + 0) 1 = some [Value.int .i64 x78]) (h5 : ¬(z17 < x78)) (h6 : ((↑z14n : Int) == 0) = false) (h7 : Fit .i64 ((↑z14n : Int) - 1)) (h8 : aindexAddr cfg.P 104 (Value.slice z14a z14n z14c) (Value.int .i64 ((↑z14n : Int) - 1)) = some (Value.pointer (some ⟨x136p, x136o, some x136l⟩))) (h9 : getCells H2 x136p x136l x136o 1 = some [Value.int .u8 x137]) (h10 : Fit .i64 (IntKind.u8.wrap (x137 - 97))) (h11 : Fit .i64 (IntKind.u8.wrap (x137 - 97) + 1)) (h12 : aslice cfg.P 104 (Value.slice z14a z14n z14c) none (some (Value.int .i64 ((↑z14n : Int) - 1))) none H2 = some (Value.slice x145a x145n x145c)) (h13 : Fit .i64 ((↑z13n : Int) - 1)) (h14 : aslice cfg.P 22 (Value.slice z13a z13n z13c) none (some (Value.int .i64 ((↑z13n : Int) - 1))) none H2 = some (Value.slice x150a x150n x150c)) : lpOf cfg a47 0 prot H0 ([.func (.func 46) #[] #[.pointer (some ⟨x1ap, x1ao, some x1al⟩)], .int .i64 x2, .string x3, .int .i64 x4, .slice x5a x5n x5c, .pointer (some ⟨x6p, x6o, some x6l⟩), .slice x13a x13n x13c, .slice x14a x14n x14c, .bool x15, .int .i64 x16], H) = some (Sum.inl ([Value.func (Fn.func 46) { toList := [] } { toList := [Value.pointer (some ⟨z1ap, z1ao, some z1al⟩)] }, Value.int .i64 z2, Value.string z3, Value.int .i64 z4, Value.slice z5a z5n z5c, Value.pointer (some ⟨z6p, z6o, some z6l⟩), Value.slice x150a x150n x150c, Value.slice x145a x145n x145c, Value.bool false, Value.int .i64 (IntKind.u8.wrap (x137 - 97) + 1)], H2)) :=
  lp_of2 [.e, .e, .b true, .e, .e, .b false, .lo (.exit 2, [.func (.func 46) #[] #[.pointer (some ⟨z1ap, z1ao, some z1al⟩)], .int .i64 z2, .string z3, .int .i64 z4, .slice z5a z5n z5c, .pointer (some ⟨z6p, z6o, some z6l⟩), .slice z13a z13n z13c, .slice z14a z14n z14c, .bool z15, .int .i64 z17], H2), .v (.int .i64 x78), .e, .b false, .e, .e, .b false, .e, .e, .v (.pointer (some ⟨x136p, x136o, some x136l⟩)), .v (.int .u8 x137), .e, .e, .e, .e, .e, .v (.slice x145a x145n x145c), .e, .e, .v (.slice x150a x150n x150c)] (ai (decide_eq_true h1) (ai h2 (ai h3 (ai h4 (ai (decide_eq_false h5) (ai h6 (ai h7 (ai h8 (ai h9 (ai h10 (ai h11 (ai h7 (ai h12 (ai h13 (ai h14 (Eq.refl (Sum.inl ([Value.func (Fn.func 46) { toList := [] } { toList := [Value.pointer (some ⟨z1ap, z1ao, some z1al⟩)] }, Value.int .i64 z2, Value.string z3, Value.int .i64 z4, Value.slice z5a z5n z5c, Value.pointer (some ⟨z6p, z6o, some z6l⟩), Value.slice x150a x150n x150c, Value.slice x145a x145n x145c, Value.bool false, Value.int .i64 (IntKind.u8.wrap (x137 - 97) + 1)], H2) : LS ⊕ LO))))))))))))))))) (by kernel_rfl)
theorem f47_L0_8 {x1ap x1ao x1al : Nat} {x2 : Int} {x3 : ByteArray} {x4 : Int} {x5a : Option Addr} {x5n x5c x6p x6o x6l : Nat} {x13a : Option Addr} {x13n x13c : Nat} {x14a : Option Addr} {x14n x14c : Nat} {x15 : Bool} {x16 : Int} {H0 : AHeap} {prot : Nat} {H : AHeap} (h1 : ¬((↑x5n : Int) < x4)) : lpOf cfg a47 0 prot H0 ([.func (.func 46) #[] #[.pointer (some ⟨x1ap, x1ao, some x1al⟩)], .int .i64 x2, .string x3, .int .i64 x4, .slice x5a x5n x5c, .pointer (some ⟨x6p, x6o, some x6l⟩), .slice x13a x13n x13c, .slice x14a x14n x14c, .bool x15, .int .i64 x16], H) = some (Sum.inr (Ex.exit 0, [Value.slice x5a x5n x5c, Value.tuple { toList := [] }], H)) :=
  lp_of2 [.e, .e, .b false] (ai (decide_eq_false h1) (Eq.refl (Sum.inr (Ex.exit 0, [Value.slice x5a x5n x5c, Value.tuple { toList := [] }], H) : LS ⊕ LO))) (by kernel_rfl)
theorem f47_L1_0 {x1ap x1ao x1al : Nat} {x2 : Int} {x3 : ByteArray} {x4 : Int} {x5a : Option Addr} {x5n x5c x6p x6o x6l : Nat} {x13a : Option Addr} {x13n x13c : Nat} {x14a : Option Addr} {x14n x14c : Nat} {x15 : Bool} {x17 : Int} {H0 : AHeap} {prot : Nat} {H : AHeap} {x47 : Int} {x52a : Option Addr} {x52n x52c x57p x57o x57l : Nat} {x58 x60 : Int} {x64p x64o x64l : Nat} {x65 : Int} {x71 : Bool} {H2 : AHeap} (h1 : getCells H x6p x6l (x6o + 0) 1 = some [Value.int .i64 x47]) (h2 : x17 < x47) (h3 : getCells H x6p x6l (x6o + 1) 1 = some [Value.slice x52a x52n x52c]) (h4 : Fit .i64 ((↑x13n : Int) - 1)) (h5 : aindexAddr cfg.P 22 (Value.slice x13a x13n x13c) (Value.int .i64 ((↑x13n : Int) - 1)) = some (Value.pointer (some ⟨x57p, x57o, some x57l⟩))) (h6 : getCells H x57p x57l x57o 1 = some [Value.int .i64 x58]) (h7 : getCells H x6p x6l (x6o + 0) 1 = some [Value.int .i64 x60]) (h8 : Fit .i64 (x58 * x60)) (h9 : Fit .i64 (x58 * x60 + x17)) (h10 : aindexAddr cfg.P 22 (Value.slice x52a x52n x52c) (Value.int .i64 (x58 * x60 + x17)) = some (Value.pointer (some ⟨x64p, x64o, some x64l⟩))) (h11 : getCells H x64p x64l x64o 1 = some [Value.int .i64 x65]) (h12 : Fit .i64 (x2 - (↑x14n : Int))) (h13 : Fit .i64 (x2 - (↑x14n : Int) - 1)) (h14 : callInf cfg 46 [Value.int .i64 x65, Value.int .i64 (x2 - (↑x14n : Int) - 1), Value.pointer (some ⟨x1ap, x1ao, some x1al⟩)] prot H = some (Value.bool x71, H2)) (h15 : (!x71) = false) : lpOf cfg a47 1 prot H0 ([.func (.func 46) #[] #[.pointer (some ⟨x1ap, x1ao, some x1al⟩)], .int .i64 x2, .string x3, .int .i64 x4, .slice x5a x5n x5c, .pointer (some ⟨x6p, x6o, some x6l⟩), .slice x13a x13n x13c, .slice x14a x14n x14c, .bool x15, .int .i64 x17], H) = some (Sum.inr (Ex.exit 2, [Value.func (Fn.func 46) { toList := [] } { toList := [Value.pointer (some ⟨x1ap, x1ao, some x1al⟩)] }, Value.int .i64 x2, Value.string x3, Value.int .i64 x4, Value.slice x5a x5n x5c, Value.pointer (some ⟨x6p, x6o, some x6l⟩), Value.slice x13a x13n x13c, Value.slice x14a x14n x14c, Value.bool x15, Value.int .i64 x17], H2)) :=
  lp_of2 [.v (.int .i64 x47), .e, .b true, .b true, .b true, .v (.slice x52a x52n x52c), .b true, .b true, .b true, .e, .b true, .e, .b true, .v (.pointer (some ⟨x57p, x57o, some x57l⟩)), .b true, .v (.int .i64 x58), .b true, .b true, .v (.int .i64 x60), .b true, .e, .b true, .b true, .e, .b true, .v (.pointer (some ⟨x64p, x64o, some x64l⟩)), .b true, .v (.int .i64 x65), .b true, .b true, .b true, .e, .b true, .e, .b true, .e, .b true, .r (.bool x71) H2, .b true, .e, .b true, .b false] (ai h1 (ai (decide_eq_true h2) (ai (decide_eq_true h2) (ai (decide_eq_true h2) (ai h3 (ai (decide_eq_true h2) (ai (decide_eq_true h2) (ai (decide_eq_true h2) (ai (decide_eq_true h2) (ai h4 (ai (decide_eq_true h2) (ai h5 (ai (decide_eq_true h2) (ai h6 (ai (decide_eq_true h2) (ai (decide_eq_true h2) (ai h7 (ai (decide_eq_true h2) (ai h8 (ai (decide_eq_true h2) (ai (decide_eq_true h2) (ai h9 (ai (decide_eq_true h2) (ai h10 (ai (decide_eq_true h2) (ai h11 (ai (decide_eq_true h2) (ai (decide_eq_true h2) (ai (decide_eq_true h2) (ai (decide_eq_true h2) (ai h12 (ai (decide_eq_true h2) (ai h13 (ai (decide_eq_true h2) (ai h14 (ai (decide_eq_true h2) (ai (decide_eq_true h2) (ai h15 (Eq.refl (Sum.inr (Ex.exit 2, [Value.func (Fn.func 46) { toList := [] } { toList := [Value.pointer (some ⟨x1ap, x1ao, some x1al⟩)] }, Value.int .i64 x2, Value.string x3, Value.int .i64 x4, Value.slice x5a x5n x5c, Value.pointer (some ⟨x6p, x6o, some x6l⟩), Value.slice x13a x13n x13c, Value.slice x14a x14n x14c, Value.bool x15, Value.int .i64 x17], H2) : LS ⊕ LO)))))))))))))))))))))))))))))))))))))))) (by kernel_rfl)
theorem f47_L1_1 {x1ap x1ao x1al : Nat} {x2 : Int} {x3 : ByteArray} {x4 : Int} {x5a : Option Addr} {x5n x5c x6p x6o x6l : Nat} {x13a : Option Addr} {x13n x13c : Nat} {x14a : Option Addr} {x14n x14c : Nat} {x15 : Bool} {x17 : Int} {H0 : AHeap} {prot : Nat} {H : AHeap} {x47 : Int} {x52a : Option Addr} {x52n x52c x57p x57o x57l : Nat} {x58 x60 : Int} {x64p x64o x64l : Nat} {x65 : Int} {x71 : Bool} {H2 : AHeap} (h1 : getCells H x6p x6l (x6o + 0) 1 = some [Value.int .i64 x47]) (h2 : x17 < x47) (h3 : getCells H x6p x6l (x6o + 1) 1 = some [Value.slice x52a x52n x52c]) (h4 : Fit .i64 ((↑x13n : Int) - 1)) (h5 : aindexAddr cfg.P 22 (Value.slice x13a x13n x13c) (Value.int .i64 ((↑x13n : Int) - 1)) = some (Value.pointer (some ⟨x57p, x57o, some x57l⟩))) (h6 : getCells H x57p x57l x57o 1 = some [Value.int .i64 x58]) (h7 : getCells H x6p x6l (x6o + 0) 1 = some [Value.int .i64 x60]) (h8 : Fit .i64 (x58 * x60)) (h9 : Fit .i64 (x58 * x60 + x17)) (h10 : aindexAddr cfg.P 22 (Value.slice x52a x52n x52c) (Value.int .i64 (x58 * x60 + x17)) = some (Value.pointer (some ⟨x64p, x64o, some x64l⟩))) (h11 : getCells H x64p x64l x64o 1 = some [Value.int .i64 x65]) (h12 : Fit .i64 (x2 - (↑x14n : Int))) (h13 : Fit .i64 (x2 - (↑x14n : Int) - 1)) (h14 : callInf cfg 46 [Value.int .i64 x65, Value.int .i64 (x2 - (↑x14n : Int) - 1), Value.pointer (some ⟨x1ap, x1ao, some x1al⟩)] prot H = some (Value.bool x71, H2)) (h15 : (!x71) = true) (h16 : Fit .i64 (x17 + 1)) : lpOf cfg a47 1 prot H0 ([.func (.func 46) #[] #[.pointer (some ⟨x1ap, x1ao, some x1al⟩)], .int .i64 x2, .string x3, .int .i64 x4, .slice x5a x5n x5c, .pointer (some ⟨x6p, x6o, some x6l⟩), .slice x13a x13n x13c, .slice x14a x14n x14c, .bool x15, .int .i64 x17], H) = some (Sum.inl ([Value.func (Fn.func 46) { toList := [] } { toList := [Value.pointer (some ⟨x1ap, x1ao, some x1al⟩)] }, Value.int .i64 x2, Value.string x3, Value.int .i64 x4, Value.slice x5a x5n x5c, Value.pointer (some ⟨x6p, x6o, some x6l⟩), Value.slice x13a x13n x13c, Value.slice x14a x14n x14c, Value.bool x15, Value.int .i64 (x17 + 1)], H2)) :=
  lp_of2 [.v (.int .i64 x47), .e, .b true, .b true, .b true, .v (.slice x52a x52n x52c), .b true, .b true, .b true, .e, .b true, .e, .b true, .v (.pointer (some ⟨x57p, x57o, some x57l⟩)), .b true, .v (.int .i64 x58), .b true, .b true, .v (.int .i64 x60), .b true, .e, .b true, .b true, .e, .b true, .v (.pointer (some ⟨x64p, x64o, some x64l⟩)), .b true, .v (.int .i64 x65), .b true, .b true, .b true, .e, .b true, .e, .b true, .e, .b true, .r (.bool x71) H2, .b true, .e, .b true, .b true, .e] (ai h1 (ai (decide_eq_true h2) (ai (decide_eq_true h2) (ai (decide_eq_true h2) (ai h3 (ai (decide_eq_true h2) (ai (decide_eq_true h2) (ai (decide_eq_true h2) (ai (decide_eq_true h2) (ai h4 (ai (decide_eq_true h2) (ai h5 (ai (decide_eq_true h2) (ai h6 (ai (decide_eq_true h2) (ai (decide_eq_true h2) (ai h7 (ai (decide_eq_true h2) (ai h8 (ai (decide_eq_true h2) (ai (decide_eq_true h2) (ai h9 (ai (decide_eq_true h2) (ai h10 (ai (decide_eq_true h2) (ai h11 (ai (decide_eq_true h2) (ai (decide_eq_true h2) (ai (decide_eq_true h2) (ai (decide_eq_true h2) (ai h12 (ai (decide_eq_true h2) (ai h13 (ai (decide_eq_true h2) (ai h14 (ai (decide_eq_true h2) (ai (decide_eq_true h2) (ai h15 (ai h16 (Eq.refl (Sum.inl ([Value.func (Fn.func 46) { toList := [] } { toList := [Value.pointer (some ⟨x1ap, x1ao, some x1al⟩)] }, Value.int .i64 x2, Value.string x3, Value.int .i64 x4, Value.slice x5a x5n x5c, Value.pointer (some ⟨x6p, x6o, some x6l⟩), Value.slice x13a x13n x13c, Value.slice x14a x14n x14c, Value.bool x15, Value.int .i64 (x17 + 1)], H2) : LS ⊕ LO))))))))))))))))))))))))))))))))))))))))) (by kernel_rfl)
theorem f47_L1_2 {x1ap x1ao x1al : Nat} {x2 : Int} {x3 : ByteArray} {x4 : Int} {x5a : Option Addr} {x5n x5c x6p x6o x6l : Nat} {x13a : Option Addr} {x13n x13c : Nat} {x14a : Option Addr} {x14n x14c : Nat} {x15 : Bool} {x17 : Int} {H0 : AHeap} {prot : Nat} {H : AHeap} {x47 : Int} (h1 : getCells H x6p x6l (x6o + 0) 1 = some [Value.int .i64 x47]) (h2 : ¬(x17 < x47)) : lpOf cfg a47 1 prot H0 ([.func (.func 46) #[] #[.pointer (some ⟨x1ap, x1ao, some x1al⟩)], .int .i64 x2, .string x3, .int .i64 x4, .slice x5a x5n x5c, .pointer (some ⟨x6p, x6o, some x6l⟩), .slice x13a x13n x13c, .slice x14a x14n x14c, .bool x15, .int .i64 x17], H) = some (Sum.inr (Ex.exit 2, [Value.func (Fn.func 46) { toList := [] } { toList := [Value.pointer (some ⟨x1ap, x1ao, some x1al⟩)] }, Value.int .i64 x2, Value.string x3, Value.int .i64 x4, Value.slice x5a x5n x5c, Value.pointer (some ⟨x6p, x6o, some x6l⟩), Value.slice x13a x13n x13c, Value.slice x14a x14n x14c, Value.bool x15, Value.int .i64 x17], H)) :=
  lp_of2 [.v (.int .i64 x47), .e, .b false, .b false, .b false, .b false, .b false, .b false, .b false, .b false, .b false, .b false, .b false, .b false, .b false, .b false, .b false, .b false, .b false, .b false, .b false, .b false, .b false, .b false, .b false, .b false, .b false] (ai h1 (ai (decide_eq_false h2) (ai (decide_eq_false h2) (ai (decide_eq_false h2) (ai (decide_eq_false h2) (ai (decide_eq_false h2) (ai (decide_eq_false h2) (ai (decide_eq_false h2) (ai (decide_eq_false h2) (ai (decide_eq_false h2) (ai (decide_eq_false h2) (ai (decide_eq_false h2) (ai (decide_eq_false h2) (ai (decide_eq_false h2) (ai (decide_eq_false h2) (ai (decide_eq_false h2) (ai (decide_eq_false h2) (ai (decide_eq_false h2) (ai (decide_eq_false h2) (ai (decide_eq_false h2) (ai (decide_eq_false h2) (ai (decide_eq_false h2) (ai (decide_eq_false h2) (ai (decide_eq_false h2) (ai (decide_eq_false h2) (ai (Eq.refl false) (Eq.refl (Sum.inr (Ex.exit 2, [Value.func (Fn.func 46) { toList := [] } { toList := [Value.pointer (some ⟨x1ap, x1ao, some x1al⟩)] }, Value.int .i64 x2, Value.string x3, Value.int .i64 x4, Value.slice x5a x5n x5c, Value.pointer (some ⟨x6p, x6o, some x6l⟩), Value.slice x13a x13n x13c, Value.slice x14a x14n x14c, Value.bool x15, Value.int .i64 x17], H) : LS ⊕ LO)))))))))))))))))))))))))))) (by kernel_rfl)
end Go.Proofs.Ythjkodbinkiifaa.Am23
namespace Go.Proofs.Ythjkodbinkiifaa.Am23
open Go Go.Proofs.Ythjkodbinkiifaa.Am

theorem T104 : ElemT cfg.P 104 5 1 1 := ⟨by kernel_rfl, by kernel_rfl, by kernel_rfl, ⟨.int .u8 0, by kernel_rfl, rfl⟩, by kernel_rfl, by omega, by omega⟩
def stl (l : List Nat) : List Value := l.map fun (s : Nat) => .int .i64 (s : Int)
theorem stl_snoc (l : List Nat) (s : Nat) : stl (l ++ [s]) = stl l ++ [.int .i64 (s : Int)] := by simp [stl]
theorem lcs_snoc (l : List Nat) (s : Nat) : lcs (l ++ [s]) = lcs l ++ [.int .u8 ((97 + s : Nat) : Int)] := by simp [lcs]
theorem goS_lt {k : Nat} {xs : List Int} {bs : List Bool} (hG : Good k xs bs) : ∀ (w : List Nat) (s : Nat), s < bs.length → (∀ c ∈ w, c < k) → w.foldl (tgt k xs) s < bs.length
  | [], s, hs, _ => hs
  | c :: w, s, hs, h => goS_lt hG w _ (tgt_lt hG hs (h c (by simp))).2.1 (fun d hd => h d (by simp [hd]))
theorem lw_nil (l : List Nat) : (!(lw l).toList == []) = !l.isEmpty := by
  rw [ByteArray.toList_eq]
  cases l with
  | nil => rfl
  | cons a l => simp [lw, bstr]

abbrev fcan (p : Nat) : Value := .func (.func 46) #[] #[.pointer (some ⟨p, 0, some 4097⟩)]
/-- It lies below, and is not the list that is made. -/
def Safe (o5 : Option Nat) (b : Nat) (v : Value) : Prop := ∀ id off L n c, v = .slice (some ⟨id, off, some L⟩) n c → id < b ∧ o5 ≠ some id
structure B47 (k : Nat) (xs : List Int) (bs : List Bool) (p : Nat) (L : List Value) (b : Nat) (o5 : Option Nat) (H : AHeap) (vN vA : Value) : Prop where
  hb : H[b]? = some (bx k vN vA)
  h5 : o5 ≠ some b
  n : Rd H 3 1 vN xs.length (il xs)
  ns : Safe o5 b vN
  ar : H[p]? = some (.cells L 72 4097 .var)
  pl : p < b
  p5 : o5 ≠ some p
  rows : ∀ m, m ≤ 4096 → ∃ v, L[m]? = some v ∧ Rd H 4 1 v bs.length (bll (canL k xs bs m)) ∧ Safe o5 b v
theorem B47.stay {k : Nat} {xs : List Int} {bs : List Bool} {p : Nat} {L : List Value} {b : Nat} {o5 : Option Nat} {H : AHeap} {vN vA : Value} (h : B47 k xs bs p L b o5 H vN vA) {o : Option Nat} {H' : AHeap} (s : Stay o H H') (ho : o = o5 ∨ ∀ id, o = some id → b < id) : B47 k xs bs p L b o5 H' vN vA := by
  have hne : ∀ q, q ≤ b → o5 ≠ some q → o ≠ some q := fun q hq h5 e => by
    rcases ho with ho | ho
    · exact h5 (ho ▸ e)
    · have := ho q e; omega
  have hs : ∀ v, Safe o5 b v → ∀ id off L n c, v = .slice (some ⟨id, off, some L⟩) n c → o ≠ some id := fun v hv id off L n c e => by
    obtain ⟨h1, h2⟩ := hv id off L n c e
    exact hne id (by omega) h2
  exact ⟨by rw [s.2 _ (List.getElem?_eq_some_iff.1 h.hb).1 (hne _ (Nat.le_refl _) h.h5)]; exact h.hb, h.h5, h.n.stayNe s (hs _ h.ns), h.ns, by rw [s.2 _ (List.getElem?_eq_some_iff.1 h.ar).1 (hne _ (by have := h.pl; omega) h.p5)]; exact h.ar, h.pl, h.p5, fun m hm => by
    obtain ⟨v, h1, h2, h3⟩ := h.rows m hm
    exact ⟨v, h1, h2.stayNe s (hs _ h3), h3⟩⟩
theorem B47.new {k : Nat} {xs : List Int} {bs : List Bool} {p : Nat} {L : List Value} {b : Nat} {o5 : Option Nat} {H : AHeap} {vN vA : Value} (h : B47 k xs bs p L b o5 H vN vA) {id : Nat} (hi : b < id) : B47 k xs bs p L b (some id) H vN vA := by
  have hs : ∀ v, Safe o5 b v → Safe (some id) b v := fun v hv id' off L n c e => ⟨(hv id' off L n c e).1, fun e2 => by have := (hv id' off L n c e).1; have := Option.some.inj e2; omega⟩
  have := h.pl
  exact ⟨h.hb, fun e => by have := Option.some.inj e; omega, h.n, hs _ h.ns, h.ar, h.pl, fun e => by have := Option.some.inj e; omega, fun m hm => by
    obtain ⟨v, h1, h2, h3⟩ := h.rows m hm
    exact ⟨v, h1, h2, hs _ h3⟩⟩

theorem loop47i {k n p : Nat} {xs : List Int} {bs : List Bool} (hG : Good k xs bs) {L : List Value} (hL : L.length = 4097) {H0 H : AHeap} {prot : Nat} {vN vA x5 x13 x14 : Value} {o5 : Option Nat} {lo : ByteArray} {most : Int} {t : Bool} {w : List Nat} (hw : ∀ c ∈ w, c < k) (hwn : w.length < n) (hn : n ≤ 4096)
    (hB : B47 k xs bs p L H0.length o5 H vN vA) (h13 : Rd H 3 1 x13 (w.length + 1) (stl (pathS (tgt k xs) w))) (h14 : ∃ a c, x14 = .slice a w.length c) (h5 : ∃ a m c, x5 = .slice a m c) : ∀ (d c : Nat), c + d = k →
    lpInf (lpOf cfg a47 1 prot H0) ([fcan p, .int .i64 n, .string lo, .int .i64 most, x5, .pointer (some ⟨H0.length, 0, some 3⟩), x13, x14, .bool t, .int .i64 c], H) =
      some (.exit 2, [fcan p, .int .i64 n, .string lo, .int .i64 most, x5, .pointer (some ⟨H0.length, 0, some 3⟩), x13, x14, .bool t, .int .i64 (firstC (fun c => canB k (tgt k xs) (accB bs) (n - w.length - 1) (tgt k xs (goS (tgt k xs) w) c)) d c : Nat)], H)
  | 0, c, hc => by
    obtain ⟨g0, _, _, _⟩ := fld3 hB.hb
    obtain ⟨a13, c13, rfl⟩ := h13.len
    obtain ⟨a14, c14, rfl⟩ := h14
    obtain ⟨a5, m5, c5, rfl⟩ := h5
    exact lp_last (f47_L1_2 g0 (by omega))
  | d + 1, c, hc => by
    have hk8 := hG.k8
    have hn5 := hG.n5
    obtain ⟨g0, g1, _, _⟩ := fld3 hB.hb
    have hs : goS (tgt k xs) w < bs.length := goS_lt hG w 0 (by have := hG.n1; omega) hw
    obtain ⟨i1, i2, i3⟩ := tgt_lt hG hs (show c < k by omega)
    have hxl := hG.nx
    have hb8 : bs.length * k ≤ 512 * 8 := Nat.mul_le_mul hn5 hk8
    have hsk : goS (tgt k xs) w * k ≤ 512 * 8 := Nat.mul_le_mul (by omega) hk8
    obtain ⟨idT, LT, t1, t2⟩ := rd_last T22 h13 (v := .int .i64 (goS (tgt k xs) w : Int)) (by unfold stl; rw [List.getElem?_map, pathS_top]; rfl)
    have hxi : (il xs)[goS (tgt k xs) w * k + c]? = some (.int .i64 ((tgt k xs (goS (tgt k xs) w) c : Nat) : Int)) := by unfold il; rw [List.getElem?_map, i3]; rfl
    obtain ⟨idN, LN, n1, n2⟩ := rd_at T22 hB.n hxi
    have ec : ((goS (tgt k xs) w * k + c : Nat) : Int) = (goS (tgt k xs) w : Int) * (k : Int) + (c : Int) := by push_cast; rfl
    rw [ec] at n1
    have hcan := c46 (k := k) (xs := xs) (bs := bs) (m := n - w.length - 1) prot hB.ar hL (by obtain ⟨v, h1, h2, _⟩ := hB.rows (n - w.length - 1) (by omega); exact ⟨v, h1, h2⟩) i2 (by omega)
    have e1 : ((n - w.length - 1 : Nat) : Int) = (n : Int) - (w.length : Int) - 1 := by omega
    rw [e1] at hcan
    obtain ⟨aN, cN, hvN⟩ := hB.n.len
    rw [hvN] at n1 g1
    obtain ⟨a13, c13, rfl⟩ := h13.len
    obtain ⟨a14, c14, rfl⟩ := h14
    obtain ⟨a5, m5, c5, rfl⟩ := h5
    have f1 : Fit .i64 ((((w.length + 1 : Nat)) : Int) - 1) := fit64 (by omega) (by omega)
    have f2 : Fit .i64 ((goS (tgt k xs) w : Int) * (k : Int)) := fit64 (by rw [show (goS (tgt k xs) w : Int) * (k : Int) = ((goS (tgt k xs) w * k : Nat) : Int) by push_cast; rfl]; omega) (by rw [show (goS (tgt k xs) w : Int) * (k : Int) = ((goS (tgt k xs) w * k : Nat) : Int) by push_cast; rfl]; omega)
    have f3 : Fit .i64 ((goS (tgt k xs) w : Int) * (k : Int) + (c : Int)) := fit64 (by rw [← ec]; omega) (by rw [← ec]; omega)
    cases hp : canB k (tgt k xs) (accB bs) (n - w.length - 1) (tgt k xs (goS (tgt k xs) w) c) with
    | true =>
      rw [hp] at hcan
      have e2 : firstC (fun c => canB k (tgt k xs) (accB bs) (n - w.length - 1) (tgt k xs (goS (tgt k xs) w) c)) (d + 1) c = c := by rw [firstC, if_pos hp]
      rw [e2]
      exact lp_last (f47_L1_0 g0 (by omega) g1 f1 t1 t2 g0 f2 f3 n1 n2 (fit64 (by omega) (by omega)) (fit64 (by omega) (by omega)) hcan rfl)
    | false =>
      rw [hp] at hcan
      have e2 : firstC (fun c => canB k (tgt k xs) (accB bs) (n - w.length - 1) (tgt k xs (goS (tgt k xs) w) c)) (d + 1) c = firstC (fun c => canB k (tgt k xs) (accB bs) (n - w.length - 1) (tgt k xs (goS (tgt k xs) w) c)) d (c + 1) := by rw [firstC, if_neg (by rw [hp]; simp)]
      rw [e2]
      exact lp_next (f47_L1_1 g0 (by omega) g1 f1 t1 t2 g0 f2 f3 n1 n2 (fit64 (by omega) (by omega)) (fit64 (by omega) (by omega)) hcan rfl (fit64 (by omega) (by omega))) (loop47i hG hL hw hwn hn hB h13 ⟨a14, c14, rfl⟩ ⟨a5, m5, c5, rfl⟩ d (c + 1) (by omega))

structure L47 (k p : Nat) (xs : List Int) (bs : List Bool) (L : List Value) (b : Nat) (H : AHeap) (vN vA x5 x13 x14 : Value) (o5 o14 : Option Nat) (o13 : Nat) (w : List Nat) (out : List (List Nat)) : Prop where
  bb : B47 k xs bs p L b o5 H vN vA
  out : Own H 9 1 x5 o5 out.length (sl out)
  st : Stk H 3 x13 (some o13) (w.length + 1) (stl (pathS (tgt k xs) w))
  wd : Stk H 5 x14 o14 w.length (lcs w)
  l13 : b < o13
  l14 : ∀ id, o14 = some id → b < id
  d1 : o5 ≠ some o13
  d2 : ∀ id, o14 = some id → o5 ≠ some id
  d3 : o14 ≠ some o13
structure DI (k n : Nat) (low : List Nat) (D : DSt) : Prop where
  wl : D.w.length ≤ n
  wk : ∀ c ∈ D.w, c < k
  ti : D.tight = true → low.length = n
  nx : D.next ≤ k
def Rel (b : Nat) (o o' : Option Nat) : Prop := (∀ id, o = some id → o' = some id) ∧ (o = none → ∀ id, o' = some id → b < id)
def Fr (b : Nat) (o : Option Nat) (H H' : AHeap) : Prop := (∀ q, q < b → o ≠ some q → H'[q]? = H[q]?) ∧ H.length ≤ H'.length
theorem Rel.refl (b : Nat) (o : Option Nat) : Rel b o o := ⟨fun _ h => h, fun h id h2 => by rw [h] at h2; cases h2⟩
theorem Rel.trans {b : Nat} {o o' o2 : Option Nat} (h : Rel b o o') (k : Rel b o' o2) : Rel b o o2 := ⟨fun id e => k.1 id (h.1 id e), fun e id e2 => by
  cases ho : o' with
  | none => exact k.2 ho id e2
  | some i => rw [k.1 i ho] at e2; have e3 := Option.some.inj e2; rw [← e3]; exact h.2 e i ho⟩
theorem Fr.trans {b : Nat} {o o' : Option Nat} {H H' H2 : AHeap} (h : Fr b o H H') (r : Rel b o o') (k : Fr b o' H' H2) : Fr b o H H2 := ⟨fun q hq ho => by
  rw [k.1 q hq (fun e => by
    cases hh : o with
    | none => have := r.2 hh q e; omega
    | some i => rw [r.1 i hh] at e; rw [hh] at ho; exact ho e)]
  exact h.1 q hq ho, Nat.le_trans h.2 k.2⟩
theorem stay_fr {b : Nat} {o o' : Option Nat} {H H' : AHeap} (h : Stay o' H H') (hb : b ≤ H.length) (ho : o' = o ∨ ∀ id, o' = some id → b ≤ id) : Fr b o H H' := ⟨fun q hq hne => h.2 q (by omega) (fun e => by
  rcases ho with ho | ho
  · exact hne (ho ▸ e)
  · have := ho q e; omega), h.1⟩

/-- One word more. -/
theorem out47 {k p prot most : Nat} {xs : List Int} {bs : List Bool} {L : List Value} {b : Nat} {H : AHeap} {vN vA x5 x13 x14 : Value} {o5 o14 : Option Nat} {o13 : Nat} {w : List Nat} {out : List (List Nat)} (hS : L47 k p xs bs L b H vN vA x5 x13 x14 o5 o14 o13 w out)
    (hp : ∀ id, o5 = some id → prot ≤ id) (hpb : prot ≤ b) (hm : most ≤ 1000) (ho : out.length < most) :
    ∃ a' c' o' H', aappend cfg.P prot true 43 43 x5 (.slice (some ⟨H.length, 0, some (1 * 1)⟩) 1 1) (H ++ [.cells [.string (lw w)] 9 [Value.string (lw w)].length .row]) = some (.slice a' (out.length + 1) c', H') ∧ L47 k p xs bs L b H' vN vA (.slice a' (out.length + 1) c') x13 x14 (some o') o14 o13 w (out ++ [w]) ∧ Rel b o5 (some o') ∧ Fr b o5 H H' := by
  have hbl := (List.getElem?_eq_some_iff.1 hS.bb.hb).1
  obtain ⟨a', c', o', H', q1, q2, q3, q4, q5, q6⟩ := own_app T43 hS.out (ecs := [.string (lw w)]) rfl rfl (prot := prot) (room := true) hp (by omega) (by omega) (L := 1 * 1) rfl (el := [Value.string (lw w)].length) rfl
  have e1 : sl out ++ [.string (lw w)] = sl (out ++ [w]) := by simp [sl]
  rw [e1] at q2
  have l13 := hS.st.lt
  have hB : B47 k xs bs p L b (some o') H' vN vA := by
    have hb1 := hS.bb.stay q3 (.inl rfl)
    cases hh : o5 with
    | none => exact hb1.new (by have := q5 hh; omega)
    | some i => have := q6 i hh; subst this; rw [hh] at hb1; exact hb1
  refine ⟨a', c', o', H', q1, ⟨hB, by simpa using q2, hS.st.stay q3 (fun id h1 h2 => by cases h1; exact hS.d1 h2), hS.wd.stay q3 (fun id h1 h2 => hS.d2 id h1 h2), hS.l13, hS.l14, fun e => ?_, fun id h1 h2 => ?_, hS.d3⟩, ⟨fun id e => by rw [q6 id e], fun e id e2 => by cases e2; have := q5 e; omega⟩, stay_fr q3 (by omega) (.inl rfl)⟩
  · have e := Option.some.inj e
    subst e
    cases hh : o5 with
    | none => have := q5 hh; omega
    | some i => have := q6 i hh; subst this; exact hS.d1 hh
  · have e := Option.some.inj h2
    subst e
    cases hh : o5 with
    | none =>
      have := q5 hh
      have h3 := hS.wd
      rw [h1] at h3
      have := h3.lt
      omega
    | some i => have := q6 i hh; subst this; exact hS.d2 _ h1 hh

/-- Back by one letter. -/
theorem pop47 {k p : Nat} {xs : List Int} {bs : List Bool} {L : List Value} {b : Nat} {H : AHeap} {vN vA x5 x13 x14 : Value} {o5 o14 : Option Nat} {o13 c : Nat} {u : List Nat} {out : List (List Nat)} (hS : L47 k p xs bs L b H vN vA x5 x13 x14 o5 o14 o13 (u ++ [c]) out) :
    ∃ id M a14 c14 a13 c13, aindexAddr cfg.P 104 x14 (.int .i64 ((((u ++ [c]).length : Nat) : Int) - 1)) = some (.pointer (some ⟨id, u.length, some M⟩)) ∧ getCells H id M u.length 1 = some [.int .u8 ((97 + c : Nat) : Int)] ∧
      aslice cfg.P 104 x14 none (some (.int .i64 ((((u ++ [c]).length : Nat) : Int) - 1))) none H = some (.slice a14 u.length c14) ∧ aslice cfg.P 22 x13 none (some (.int .i64 (((((u ++ [c]).length + 1 : Nat)) : Int) - 1))) none H = some (.slice a13 (u.length + 1) c13) ∧
      L47 k p xs bs L b H vN vA x5 (.slice a13 (u.length + 1) c13) (.slice a14 u.length c14) o5 o14 o13 u out := by
  have el : (u ++ [c]).length = u.length + 1 := by simp
  have hw := hS.wd
  have hs := hS.st
  rw [el] at hw hs ⊢
  obtain ⟨id, M, i1, i2⟩ := rd_last T104 hw.rd (v := .int .u8 ((97 + c : Nat) : Int)) (by rw [lcs_snoc, List.getElem?_append_right (by simp [lcs])]; simp [lcs])
  obtain ⟨a14, c14, j1, j2⟩ := stk_pop T104 hw (by omega)
  obtain ⟨a13, c13, k1, k2⟩ := stk_pop T22 hs (by omega)
  rw [lcs_snoc, List.dropLast_concat] at j2
  rw [pathS_snoc, stl_snoc, List.dropLast_concat] at k2
  simp only [Nat.add_sub_cancel] at j1 j2 k1 k2
  exact ⟨id, M, a14, c14, a13, c13, i1, i2, j1, k1, ⟨hS.bb, hS.out, k2, j2, hS.l13, hS.l14, hS.d1, hS.d2, hS.d3⟩⟩

/-- On by one letter. -/
theorem push47 {k n p prot c : Nat} {xs : List Int} {bs : List Bool} (hG : Good k xs bs) {L : List Value} {b : Nat} {H : AHeap} {vN vA x5 x13 x14 : Value} {o5 o14 : Option Nat} {o13 : Nat} {w : List Nat} {out : List (List Nat)} (hS : L47 k p xs bs L b H vN vA x5 x13 x14 o5 o14 o13 w out)
    (hpb : prot ≤ b) (hw : ∀ c ∈ w, c < k) (hwn : w.length < n) (hn : n ≤ 4096) (hc : c < k) :
    ∃ idT LT idN LN a13 c13 H3 a14 c14 o14' H4, aindexAddr cfg.P 22 x13 (.int .i64 (((w.length + 1 : Nat) : Int) - 1)) = some (.pointer (some ⟨idT, w.length, some LT⟩)) ∧ getCells H idT LT w.length 1 = some [.int .i64 (goS (tgt k xs) w : Int)] ∧
      aindexAddr cfg.P 22 vN (.int .i64 ((goS (tgt k xs) w : Int) * (k : Int) + (c : Int))) = some (.pointer (some ⟨idN, goS (tgt k xs) w * k + c, some LN⟩)) ∧ getCells H idN LN (goS (tgt k xs) w * k + c) 1 = some [.int .i64 ((tgt k xs (goS (tgt k xs) w) c : Nat) : Int)] ∧
      aappend cfg.P prot true 22 22 x13 (.slice (some ⟨H.length, 0, some (1 * 1)⟩) 1 1) (H ++ [.cells [.int .i64 ((tgt k xs (goS (tgt k xs) w) c : Nat) : Int)] 3 [Value.int .i64 ((tgt k xs (goS (tgt k xs) w) c : Nat) : Int)].length .row]) = some (.slice a13 (w.length + 1 + 1) c13, H3) ∧
      aappend cfg.P prot true 104 104 x14 (.slice (some ⟨H3.length, 0, some (1 * 1)⟩) 1 1) (H3 ++ [.cells [.int .u8 (IntKind.u8.wrap (97 + (c : Int)))] 5 [Value.int .u8 (IntKind.u8.wrap (97 + (c : Int)))].length .row]) = some (.slice a14 (w.length + 1) c14, H4) ∧
      L47 k p xs bs L b H4 vN vA x5 (.slice a13 (w.length + 1 + 1) c13) (.slice a14 (w.length + 1) c14) o5 o14' o13 (w ++ [c]) out ∧ Fr b o5 H H4 ∧ Fit .i64 ((goS (tgt k xs) w : Int) * (k : Int)) ∧ Fit .i64 ((goS (tgt k xs) w : Int) * (k : Int) + (c : Int)) := by
  have hk8 := hG.k8
  have hn5 := hG.n5
  have hs : goS (tgt k xs) w < bs.length := goS_lt hG w 0 (by have := hG.n1; omega) hw
  obtain ⟨i1, i2, i3⟩ := tgt_lt hG hs hc
  have hb8 : bs.length * k ≤ 512 * 8 := Nat.mul_le_mul hn5 hk8
  have hsk : goS (tgt k xs) w * k ≤ 512 * 8 := Nat.mul_le_mul (by omega) hk8
  obtain ⟨idT, LT, t1, t2⟩ := rd_last T22 hS.st.rd (v := .int .i64 (goS (tgt k xs) w : Int)) (by unfold stl; rw [List.getElem?_map, pathS_top]; rfl)
  have hxi : (il xs)[goS (tgt k xs) w * k + c]? = some (.int .i64 ((tgt k xs (goS (tgt k xs) w) c : Nat) : Int)) := by unfold il; rw [List.getElem?_map, i3]; rfl
  obtain ⟨idN, LN, n1, n2⟩ := rd_at T22 hS.bb.n hxi
  have ec : ((goS (tgt k xs) w * k + c : Nat) : Int) = (goS (tgt k xs) w : Int) * (k : Int) + (c : Int) := by push_cast; rfl
  rw [ec] at n1
  have hbl := (List.getElem?_eq_some_iff.1 hS.bb.hb).1
  have l13 := hS.l13
  have l13' := hS.st.lt
  obtain ⟨a13, c13, o, H3, p1, p2, p3, p4, p5, p6⟩ := stk_push T22 hS.st (v := .int .i64 ((tgt k xs (goS (tgt k xs) w) c : Nat) : Int)) rfl (prot := prot) (fun id h => by cases h; omega) (by omega) (by omega) (L := 1 * 1) rfl (el := [Value.int .i64 ((tgt k xs (goS (tgt k xs) w) c : Nat) : Int)].length) rfl
  obtain rfl : o = o13 := p6 _ rfl
  have w14 := hS.wd.stay p3 (fun id h1 h2 => hS.d3 (by rw [h1, h2]))
  have l3 := p3.1
  obtain ⟨a14, c14, o2, H4, q1, q2, q3, q4, q5, q6⟩ := stk_push T104 w14 (v := .int .u8 (IntKind.u8.wrap (97 + (c : Int)))) rfl (prot := prot) (fun id h => by have := hS.l14 id h; omega) (by omega) (by omega) (L := 1 * 1) rfl (el := [Value.int .u8 (IntKind.u8.wrap (97 + (c : Int)))].length) rfl
  have eu : IntKind.u8.wrap (97 + (c : Int)) = ((97 + c : Nat) : Int) := by
    rw [show (97 : Int) + (c : Int) = ((97 + c : Nat) : Int) by omega]
    exact u8_small (by omega)
  have hb3 := hS.bb.stay p3 (.inr fun id h => by cases h; exact l13)
  have hb4 := hb3.stay q3 (.inr hS.l14)
  have hout : Own H4 9 1 x5 o5 out.length (sl out) := (hS.out.stay p3 (fun id h1 h2 => by cases h2; exact hS.d1 h1)).stay q3 (fun id h1 h2 => hS.d2 id h2 h1)
  have ho5 : ∀ id, o5 = some id → id < H.length := fun id h => by
    have := hS.out
    rw [h] at this
    exact own_lt this
  refine ⟨idT, LT, idN, LN, a13, c13, H3, a14, c14, some o2, H4, t1, t2, n1, n2, p1, q1, ⟨hb4, hout, ?_, ?_, l13, fun id h => ?_, hS.d1, fun id h1 h2 => ?_, fun h => ?_⟩, ?_, ?_, ?_⟩
  · rw [pathS_snoc, stl_snoc, List.length_append]
    exact p2.stay q3 (fun id h1 h2 => by cases h1; exact hS.d3 h2)
  · rw [lcs_snoc, List.length_append, ← eu]
    exact q2
  · have h := Option.some.inj h
    subst h
    cases ho : o14 with
    | none => have := q5 ho; omega
    | some i => have := q6 i ho; subst this; exact hS.l14 _ ho
  · have h := Option.some.inj h1
    subst h
    cases ho : o14 with
    | none => have := q5 ho; have := ho5 _ h2; omega
    | some i => have := q6 i ho; subst this; exact hS.d2 _ ho h2
  · have h := Option.some.inj h
    subst h
    cases ho : o14 with
    | none => have := q5 ho; omega
    | some i => have := q6 i ho; subst this; exact hS.d3 ho
  · exact ⟨fun q hq hne => by rw [q3.2 q (by omega) (fun e => by have := hS.l14 q e; omega), p3.2 q (by omega) (fun e => by cases e; omega)], Nat.le_trans p3.1 q3.1⟩
  · exact fit64 (by rw [show (goS (tgt k xs) w : Int) * (k : Int) = ((goS (tgt k xs) w * k : Nat) : Int) by push_cast; rfl]; omega) (by rw [show (goS (tgt k xs) w : Int) * (k : Int) = ((goS (tgt k xs) w * k : Nat) : Int) by push_cast; rfl]; omega)
  · exact fit64 (by rw [← ec]; omega) (by rw [← ec]; omega)

abbrev s47 (p n most H0l : Nat) (low : List Nat) (x5 x13 x14 : Value) (t : Bool) (c : Nat) : List Value :=
  [fcan p, .int .i64 n, .string (lw low), .int .i64 most, x5, .pointer (some ⟨H0l, 0, some 3⟩), x13, x14, .bool t, .int .i64 c]
/-- How the loop ends. -/
def Fin47 (e : Ex) (vs : List Value) (X : Value) : Prop := (e = .exit 0 ∧ vs = [X, .tuple #[]]) ∨ (e = .ret ∧ vs = [X, X])

theorem body47 {k n p most : Nat} {xs : List Int} {bs : List Bool} (hG : Good k xs bs) {low : List Nat} (hlk : ∀ i, low.getD i 0 < k) (hn : n ≤ 4096) (hm : most ≤ 1000) {L : List Value} (hL : L.length = 4097) {H0 H : AHeap} {prot : Nat} (hp : prot ≤ H0.length) {vN vA x5 x13 x14 : Value} {o5 o14 : Option Nat} {o13 : Nat} {D : DSt}
    (hS : L47 k p xs bs L H0.length H vN vA x5 x13 x14 o5 o14 o13 D.w D.out) (hD : DI k n low D) (h5 : ∀ id, o5 = some id → prot ≤ id) :
    (∃ R X oX e vs H', dstep k (tgt k xs) (accB bs) n low most D = .inr R ∧ lpOf cfg a47 0 prot H0 (s47 p n most H0.length low x5 x13 x14 D.tight D.next, H) = some (.inr (e, vs, H')) ∧ Fin47 e vs X ∧ Own H' 9 1 X oX R.length (sl R) ∧ Rel H0.length o5 oX ∧ Fr H0.length o5 H H') ∨
    (∃ D' y5 y13 y14 o5' o14' o13' H', dstep k (tgt k xs) (accB bs) n low most D = .inl D' ∧ lpOf cfg a47 0 prot H0 (s47 p n most H0.length low x5 x13 x14 D.tight D.next, H) = some (.inl (s47 p n most H0.length low y5 y13 y14 D'.tight D'.next, H')) ∧
      L47 k p xs bs L H0.length H' vN vA y5 y13 y14 o5' o14' o13' D'.w D'.out ∧ DI k n low D' ∧ Rel H0.length o5 o5' ∧ Fr H0.length o5 H H') := by
  obtain ⟨w, t, nx, out⟩ := D
  have hk8 := hG.k8
  have hwl := hD.wl
  have hwk := hD.wk
  have hti := hD.ti
  have hnx := hD.nx
  simp only at hS hwl hwk hti hnx ⊢
  have hbl := (List.getElem?_eq_some_iff.1 hS.bb.hb).1
  -- a letter back
  have back : ∀ (v5 : Value) (o5' : Option Nat) (out' : List (List Nat)) (H2 : AHeap) (u : List Nat) (c : Nat), w = u ++ [c] → L47 k p xs bs L H0.length H2 vN vA v5 x13 x14 o5' o14 o13 w out' →
      IntKind.u8.wrap (((97 + c : Nat) : Int) - 97) = (c : Int) ∧ Fit .i64 (IntKind.u8.wrap (((97 + c : Nat) : Int) - 97)) ∧ Fit .i64 (IntKind.u8.wrap (((97 + c : Nat) : Int) - 97) + 1) ∧ DI k n low ⟨u, false, c + 1, out'⟩ := fun v5 o5' out' H2 u c hw hS2 => by
    have hc : c < k := hwk c (by rw [hw]; simp)
    have e : IntKind.u8.wrap (((97 + c : Nat) : Int) - 97) = (c : Int) := by
      rw [show (((97 + c : Nat) : Int) - 97) = ((c : Nat) : Int) by omega]
      exact u8_small (by omega)
    refine ⟨e, by rw [e]; exact fit64 (by omega) (by omega), by rw [e]; exact fit64 (by omega) (by omega), ⟨?_, fun d hd => hwk d (by rw [hw]; simp [hd]), fun h => (by cases h), ?_⟩⟩
    · have : w.length = u.length + 1 := by rw [hw]; simp
      show u.length ≤ n
      omega
    · show c + 1 ≤ k
      omega
  by_cases c1 : most ≤ out.length
  · refine .inl ⟨out, x5, o5, _, _, H, ?_, ?_, .inl ⟨rfl, rfl⟩, hS.out, Rel.refl _ _, fun _ _ _ => rfl, Nat.le_refl _⟩
    · unfold dstep; rw [if_pos c1]
    · obtain ⟨_, _, rfl⟩ := hS.out.len
      obtain ⟨_, _, rfl⟩ := hS.st.len
      obtain ⟨_, _, rfl⟩ := hS.wd.len
      exact f47_L0_8 (by omega)
  by_cases c2 : w.length = n
  · have hd : dstep k (tgt k xs) (accB bs) n low most ⟨w, t, nx, out⟩ = dpop w (out ++ [w]) := by unfold dstep; rw [if_neg c1, if_pos c2]
    have hcv := conv_word (P := cfg.P) (tb := 104) (ts := 9) (te := 5) (by kernel_rfl) (by kernel_rfl) (by kernel_rfl) hS.wd.rd
    obtain ⟨a', c', o', H2, q1, q2, q3, q4⟩ := out47 hS h5 hp hm (by omega)
    obtain ⟨a5, c5, rfl⟩ := hS.out.len
    obtain ⟨a13, c13, rfl⟩ := hS.st.len
    rcases List.eq_nil_or_concat w with hw | ⟨u, c, hw⟩
    · subst hw
      have hn0 : n = 0 := by simpa using c2.symm
      subst hn0
      obtain ⟨a14, c14, rfl⟩ := hS.wd.len
      refine .inl ⟨_, _, some o', _, _, H2, by rw [hd]; rfl, f47_L0_0 (by omega) (by simp) hcv q1 (by simp), .inr ⟨rfl, rfl⟩, q2.out, q3, q4⟩
    · rw [List.concat_eq_append] at hw
      obtain ⟨e1, e2, e3, e4⟩ := back _ _ _ _ u c hw q2
      subst hw
      have el : (u ++ [c]).length = u.length + 1 := by simp
      obtain ⟨id, M, b14, d14, b13, d13, i1, i2, i3, i4, i5⟩ := pop47 q2
      obtain ⟨a14, c14, rfl⟩ := hS.wd.len
      refine .inr ⟨⟨u, false, c + 1, out ++ [u ++ [c]]⟩, _, _, _, some o', o14, o13, H2, ?_, ?_, i5, e4, q3, q4⟩
      · rw [hd]; unfold dpop; rw [if_neg (by simp)]; simp
      · have hz := f47_L0_1 (x2 := (n : Int)) (x3 := lw low) (x15 := t) (x16 := (nx : Int)) (x1ap := p) (x1ao := 0) (x1al := 4097) (x6p := H0.length) (x6o := 0) (x6l := 3) (H0 := H0) (show ((out.length : Nat) : Int) < (most : Int) by omega) (by rw [beq_iff_eq]; omega) hcv q1 (by rw [beq_eq_false_iff_ne]; omega) (fit64 (by omega) (by omega)) i1 i2 e2 e3 i3 (fit64 (by omega) (by omega)) i4
        rw [e1] at hz
        exact hz
  · have hwn : w.length < n := by omega
    obtain ⟨c, hc⟩ : ∃ c, firstC (fun c => canB k (tgt k xs) (accB bs) (n - w.length - 1) (tgt k xs (goS (tgt k xs) w) c)) (k - nx) nx = c := ⟨_, rfl⟩
    have hloop := loop47i hG hL (prot := prot) (x5 := x5) (lo := lw low) (most := (most : Int)) (t := t) hwk hwn hn hS.bb hS.st.rd hS.wd.len (by obtain ⟨a, c, h⟩ := hS.out.len; exact ⟨a, _, c, h⟩) (k - nx) nx (by omega)
    have hfc := (firstC_ge (fun c => canB k (tgt k xs) (accB bs) (n - w.length - 1) (tgt k xs (goS (tgt k xs) w) c)) (k - nx) nx).2.1
    rw [hc] at hloop hfc
    obtain ⟨g0, g1, _, _⟩ := fld3 hS.bb.hb
    have hne : ((w.length : Int) == (n : Int)) = false := by rw [beq_eq_false_iff_ne]; omega
    by_cases c3 : c < k
    · have hd : dstep k (tgt k xs) (accB bs) n low most ⟨w, t, nx, out⟩ = .inl ⟨w ++ [c], t && (c == low.getD w.length 0), if (t && (c == low.getD w.length 0)) && decide (w.length + 1 < n) then low.getD (w.length + 1) 0 else 0, out⟩ := by
        unfold dstep; rw [if_neg c1, if_neg c2]; simp only [hc]; rw [if_pos c3]
      obtain ⟨idT, LT, idN, LN, b13, d13, H3, b14, d14, o14', H4, t1, t2, n1, n2, p1, p2, p3, p4, p5, p6⟩ := push47 hG hS hp hwk hwn hn c3
      obtain ⟨aN, cN, hvN⟩ := hS.bb.n.len
      rw [hvN] at n1 g1
      obtain ⟨a5, c5, rfl⟩ := hS.out.len
      obtain ⟨a13, c13, rfl⟩ := hS.st.len
      obtain ⟨a14, c14, rfl⟩ := hS.wd.len
      have f1 : Fit .i64 ((((w.length + 1 : Nat)) : Int) - 1) := fit64 (by omega) (by omega)
      have f97 : Fit .i64 (97 + (c : Int)) := fit64 (by omega) (by omega)
      have hout : ((out.length : Nat) : Int) < (most : Int) := by omega
      have hlet : ∀ i, i < low.length → IntKind.u8.wrap (((((lw low).get! (i : Int).toNat).toNat : Int)) - 97) = ((low.getD i 0 : Nat) : Int) := fun i hi => by
        have h1 := hlk i
        have h2 : low.getD i 0 = low[i] := by rw [List.getD_eq_getElem?_getD, List.getElem?_eq_getElem hi]; rfl
        rw [Int.toNat_natCast, lw_get hi (by omega), h2, show (((97 + low[i] : Nat) : Int) - 97) = ((low[i] : Nat) : Int) by omega]
        exact u8_small (by omega)
      have hfl : ∀ i, Fit .i64 (((low.getD i 0 : Nat) : Int)) := fun i => by have := hlk i; exact fit64 (by omega) (by omega)
      have hdi : ∀ (t' : Bool) (nx' : Nat), (t' = true → t = true) → nx' ≤ k → DI k n low ⟨w ++ [c], t', nx', out⟩ := fun t' nx' h1 h2 => ⟨by show (w ++ [c]).length ≤ n; simp; omega, fun d hd => by
        have hd : d ∈ w ++ [c] := hd
        rw [List.mem_append, List.mem_singleton] at hd
        rcases hd with hd | rfl
        · exact hwk d hd
        · exact c3, fun h => hti (h1 h), h2⟩
      cases ht : t with
      | false =>
        subst ht
        rw [Bool.false_and, Bool.false_and, if_neg (by simp)] at hd
        exact .inr ⟨_, _, _, _, o5, o14', o13, H4, hd, f47_L0_5 hout hne hloop g0 (by omega) rfl g1 f1 t1 t2 g0 p5 p6 n1 n2 p1 f97 p2, p3, hdi _ _ (fun h => by cases h) (Nat.zero_le _), Rel.refl _ _, p4⟩
      | true =>
        subst ht
        have hll := hti rfl
        have hsz : (w.length : Int) < ((lw low).size : Int) := by rw [lw_size]; omega
        have e0 := hlet w.length (by omega)
        rw [Bool.true_and] at hd
        by_cases h6 : c = low.getD w.length 0
        · have hq : ((c : Int) == IntKind.u8.wrap (((((lw low).get! (w.length : Int).toNat).toNat : Int)) - 97)) = true := by rw [e0, ← h6]; simp
          have hb : (c == low.getD w.length 0) = true := by rw [← h6]; simp
          rw [hb] at hd
          by_cases h7 : w.length + 1 < n
          · rw [if_pos (by simp [h7])] at hd
            have e1 := hlet (w.length + 1) (by omega)
            have hz := f47_L0_2 (H0 := H0) hout hne hloop g0 (by omega) rfl (by omega) hsz (by rw [e0]; exact hfl _) g1 f1 t1 t2 g0 p5 p6 n1 n2 p1 f97 p2 hq (by omega) (by omega) (by rw [lw_size]; omega) (by rw [e1]; exact hfl _)
            rw [hq, e1] at hz
            exact .inr ⟨_, _, _, _, o5, o14', o13, H4, hd, hz, p3, hdi _ _ (fun _ => rfl) (by have := hlk (w.length + 1); omega), Rel.refl _ _, p4⟩
          · rw [if_neg (by simp [h7])] at hd
            have hz := f47_L0_3 (H0 := H0) hout hne hloop g0 (by omega) rfl (by omega) hsz (by rw [e0]; exact hfl _) g1 f1 t1 t2 g0 p5 p6 n1 n2 p1 f97 p2 hq (by omega)
            rw [hq] at hz
            exact .inr ⟨_, _, _, _, o5, o14', o13, H4, hd, hz, p3, hdi _ _ (fun _ => rfl) (Nat.zero_le _), Rel.refl _ _, p4⟩
        · have hq : ((c : Int) == IntKind.u8.wrap (((((lw low).get! (w.length : Int).toNat).toNat : Int)) - 97)) = false := by rw [e0]; simpa using (by omega : ¬ (c : Int) = ((low.getD w.length 0 : Nat) : Int))
          have hb : (c == low.getD w.length 0) = false := by rw [beq_eq_false_iff_ne]; exact h6
          rw [hb, Bool.false_and, if_neg (by simp)] at hd
          have hz := f47_L0_4 (H0 := H0) hout hne hloop g0 (by omega) rfl (by omega) hsz (by rw [e0]; exact hfl _) g1 f1 t1 t2 g0 p5 p6 n1 n2 p1 f97 p2 hq
          rw [hq] at hz
          exact .inr ⟨_, _, _, _, o5, o14', o13, H4, hd, hz, p3, hdi _ _ (fun h => by cases h) (Nat.zero_le _), Rel.refl _ _, p4⟩
    · have hd : dstep k (tgt k xs) (accB bs) n low most ⟨w, t, nx, out⟩ = dpop w out := by
        unfold dstep; rw [if_neg c1, if_neg c2]; simp only [hc]; rw [if_neg c3]
      obtain ⟨a5, c5, rfl⟩ := hS.out.len
      obtain ⟨a13, c13, rfl⟩ := hS.st.len
      rcases List.eq_nil_or_concat w with hw | ⟨u, d, hw⟩
      · subst hw
        obtain ⟨a14, c14, rfl⟩ := hS.wd.len
        exact .inl ⟨out, _, o5, _, _, H, by rw [hd]; rfl, f47_L0_6 (by omega) hne hloop g0 (by omega) (by simp), .inr ⟨rfl, rfl⟩, hS.out, Rel.refl _ _, fun _ _ _ => rfl, Nat.le_refl _⟩
      · rw [List.concat_eq_append] at hw
        obtain ⟨e1, e2, e3, e4⟩ := back _ _ _ _ u d hw hS
        subst hw
        have el : (u ++ [d]).length = u.length + 1 := by simp
        obtain ⟨id, M, b14, d14, b13, d13, i1, i2, i3, i4, i5⟩ := pop47 hS
        obtain ⟨a14, c14, rfl⟩ := hS.wd.len
        refine .inr ⟨⟨u, false, d + 1, out⟩, _, _, _, o5, o14, o13, H, ?_, ?_, i5, e4, Rel.refl _ _, fun _ _ _ => rfl, Nat.le_refl _⟩
        · rw [hd]; unfold dpop; rw [if_neg (by simp)]; simp
        · have hz := f47_L0_7 (H0 := H0) (show ((out.length : Nat) : Int) < (most : Int) by omega) hne hloop g0 (by omega) (by rw [beq_eq_false_iff_ne]; omega) (fit64 (by omega) (by omega)) i1 i2 e2 e3 i3 (fit64 (by omega) (by omega)) i4
          rw [e1] at hz
          exact hz

theorem loop47 {k n p most : Nat} {xs : List Int} {bs : List Bool} (hG : Good k xs bs) {low : List Nat} (hlk : ∀ i, low.getD i 0 < k) (hn : n ≤ 4096) (hm : most ≤ 1000) {L : List Value} (hL : L.length = 4097) {H0 : AHeap} {prot : Nat} (hp : prot ≤ H0.length) {vN vA : Value} {D : DSt} {R : List (List Nat)}
    (hr : Runs k (tgt k xs) (accB bs) n low most D R) : ∀ (x5 x13 x14 : Value) (o5 o14 : Option Nat) (o13 : Nat) (H : AHeap), L47 k p xs bs L H0.length H vN vA x5 x13 x14 o5 o14 o13 D.w D.out → DI k n low D → (∀ id, o5 = some id → prot ≤ id) →
    ∃ X oX e vs H', lpInf (lpOf cfg a47 0 prot H0) (s47 p n most H0.length low x5 x13 x14 D.tight D.next, H) = some (e, vs, H') ∧ Fin47 e vs X ∧ Own H' 9 1 X oX R.length (sl R) ∧ Rel H0.length o5 oX ∧ Fr H0.length o5 H H' := by
  induction hr with
  | @done D R hd =>
    intro x5 x13 x14 o5 o14 o13 H hS hD h5
    rcases body47 hG hlk hn hm hL hp hS hD h5 with ⟨R', X, oX, e, vs, H', h1, h2, h3, h4, h6, h7⟩ | ⟨D', _, _, _, _, _, _, _, h1, _⟩
    · rw [hd] at h1
      cases h1
      exact ⟨X, oX, e, vs, H', lp_last h2, h3, h4, h6, h7⟩
    · rw [hd] at h1; cases h1
  | @step D D' R hd hr ih =>
    intro x5 x13 x14 o5 o14 o13 H hS hD h5
    rcases body47 hG hlk hn hm hL hp hS hD h5 with ⟨R', X, oX, e, vs, H', h1, h2, h3, h4, h6, h7⟩ | ⟨D2, y5, y13, y14, o5', o14', o13', H2, h1, h2, h3, h4, h6, h7⟩
    · rw [hd] at h1; cases h1
    · rw [hd] at h1
      cases h1
      obtain ⟨X, oX, e, vs, H', g1, g2, g3, g4, g5⟩ := ih y5 y13 y14 o5' o14' o13' H2 h3 h4 (fun id e => by
        cases ho : o5 with
        | none => have := h6.2 ho id e; omega
        | some i => have := h6.1 i ho; rw [this] at e; cases e; exact h5 _ ho)
      exact ⟨X, oX, e, vs, H', lp_next h2 g1, g2, g3, h6.trans g4, h7.trans h6 g5⟩

theorem c47 {k n p most : Nat} {xs : List Int} {bs : List Bool} (hG : Good k xs bs) {low : List Nat} (hlk : ∀ i, low.getD i 0 < k) (hln : low ≠ [] → low.length = n) (hn : n ≤ 4096) (hm : most ≤ 1000) {L : List Value} (hL : L.length = 4097) {H : AHeap} {prot : Nat} (hp : prot ≤ H.length) {vN vA x5 : Value} {o5 : Option Nat} {out : List (List Nat)} (ho : out.length < most)
    (hA : IsA H xs bs vN vA) (hsN : Safe o5 H.length vN) (hsA : Safe o5 H.length vA) (har : H[p]? = some (.cells L 72 4097 .var)) (hp5 : o5 ≠ some p) (hrows : ∀ m, m ≤ 4096 → ∃ v, L[m]? = some v ∧ Rd H 4 1 v bs.length (bll (canL k xs bs m)) ∧ Safe o5 H.length v)
    (hout : Own H 9 1 x5 o5 out.length (sl out)) (h5 : ∀ id, o5 = some id → prot ≤ id) :
    ∃ X oX H', callInf cfg 47 [av k vN vA, fcan p, .int .i64 n, .string (lw low), .int .i64 most, x5] prot H = some (X, H') ∧ Own H' 9 1 X oX ((out ++ allW k (tgt k xs) (accB bs) n 0 (if low = [] then none else some low)).take most).length (sl ((out ++ allW k (tgt k xs) (accB bs) n 0 (if low = [] then none else some low)).take most)) ∧
      Rel H.length o5 oX ∧ Fr H.length o5 H H' := by
  have hn1 := hG.n1
  have hk8 := hG.k8
  have hpl := (List.getElem?_eq_some_iff.1 har).1
  obtain ⟨aN, cN, rfl⟩ := hA.n.len
  obtain ⟨aA, cA, rfl⟩ := hA.a.len
  obtain ⟨HX, hHX⟩ : ∃ HX, HX = H ++ [bx k (.slice aN xs.length cN) (.slice aA bs.length cA)] := ⟨_, rfl⟩
  obtain ⟨HA, hHA⟩ : ∃ HA, HA = HX ++ [AObj.cells [.int .i64 0] 3 [Value.int .i64 0].length .row] := ⟨_, rfl⟩
  have lX : HX.length = H.length + 1 := by rw [hHX]; simp
  have lA : HA.length = H.length + 2 := by rw [hHA]; simp; omega
  have sX : Stay none H HX := by rw [hHX]; exact Stay.app none H _
  have sA : Stay none HX HA := by rw [hHA]; exact Stay.app none HX _
  have sAll := sX.trans sA
  have st : Stk HA 3 (.slice (some ⟨HX.length, 0, some (1 * 1)⟩) 1 1) (some HX.length) 1 (stl (pathS (tgt k xs) [])) := by
    rw [hHA]
    exact (own_new (H := HX) (e := 3) (s := 1) (n := 1) (cs := [.int .i64 0]) rfl (by omega) rfl rfl).stk
  have hB : B47 k xs bs p L H.length o5 HA (.slice aN xs.length cN) (.slice aA bs.length cA) := by
    refine ⟨?_, fun e => ?_, hA.n.stay sAll, hsN, ?_, hpl, hp5, fun m hm => ?_⟩
    · rw [sA.2 _ (by omega) (by simp), hHX]; exact append_get.1
    · have := hout
      rw [e] at this
      have := own_lt this
      omega
    · rw [sAll.2 _ hpl (by simp)]; exact har
    · obtain ⟨v, h1, h2, h3⟩ := hrows m hm
      exact ⟨v, h1, h2.stay sAll, h3⟩
  have hcan : callInf cfg 46 [.int .i64 0, .int .i64 n, .pointer (some ⟨p, 0, some 4097⟩)] prot HA = some (.bool (canB k (tgt k xs) (accB bs) n 0), HA) :=
    c46 (k := k) (xs := xs) (bs := bs) (s := 0) (m := n) prot hB.ar hL (by obtain ⟨v, h1, h2, _⟩ := hB.rows n hn; exact ⟨v, h1, h2⟩) (by omega) hn
  have h5l : ∀ id, o5 = some id → id < H.length := fun id h => by
    have := hout
    rw [h] at this
    exact own_lt this
  have frA : Fr H.length o5 H HA := stay_fr sAll (Nat.le_refl _) (.inr fun id h => by cases h)
  have houtA : Own HA 9 1 x5 o5 out.length (sl out) := hout.stay sAll (fun id _ h => by cases h)
  cases hc : canB k (tgt k xs) (accB bs) n 0 with
  | false =>
    rw [hc] at hcan
    obtain ⟨a5, c5, rfl⟩ := hout.len
    refine ⟨.slice a5 out.length c5, o5, HA, ?_, ?_, Rel.refl _ _, frA⟩
    · subst hHA; subst hHX
      exact f47_F_4 all3 hcan rfl
    · rw [allW_nil _ _ _ _ _ _ hc, List.append_nil, List.take_of_length_le (by omega)]
      exact houtA
  | true =>
    rw [hc] at hcan
    have hr := listed_runs k (tgt k xs) (accB bs) (most := most) hlk hln ho hc
    have hS : L47 k p xs bs L H.length HA (.slice aN xs.length cN) (.slice aA bs.length cA) x5 (.slice (some ⟨HX.length, 0, some (1 * 1)⟩) 1 1) (.slice none 0 0) o5 none HX.length [] out :=
      ⟨hB, houtA, st, stk_nil, by omega, fun id h => (by cases h), fun h => by have := h5l _ h; omega, fun id h => (by cases h), by simp⟩
    have hD : DI k n low ⟨[], !low.isEmpty, low.getD 0 0, out⟩ := ⟨Nat.zero_le _, fun c h => (by cases h), fun h => hln (fun e => by subst e; simp at h), Nat.le_of_lt (hlk 0)⟩
    obtain ⟨X, oX, e, vs, H', g1, g2, g3, g4, g5⟩ := loop47 hG hlk hn hm hL hp hr x5 _ _ o5 none HX.length HA hS hD h5
    refine ⟨X, oX, H', ?_, g3, g4, frA.trans (Rel.refl _ _) g5⟩
    have hnl := lw_nil low
    obtain ⟨aX, cX, hX⟩ := g3.len
    obtain ⟨a5, c5, rfl⟩ := hout.len
    simp only at g1
    cases low with
    | nil =>
      have g1' : lpInf (lpOf cfg a47 0 prot H) ([fcan p, .int .i64 n, .string (lw []), .int .i64 most, .slice a5 out.length c5, .pointer (some ⟨H.length, 0, some 3⟩), .slice (some ⟨HX.length, 0, some (1 * 1)⟩) 1 1, .slice none 0 0, .bool (!(lw []).toList == []), .int .i64 0], HA) = some (e, vs, H') := by rw [hnl]; exact g1
      subst hHA; subst hHX
      rcases g2 with ⟨rfl, rfl⟩ | ⟨rfl, rfl⟩
      · rw [hX] at g1' ⊢; exact f47_F_2 all3 hcan rfl hnl g1'
      · rw [hX] at g1' ⊢; exact f47_F_3 all3 hcan rfl hnl g1'
    | cons l r =>
      have h0 := hlk 0
      have hw0 : IntKind.u8.wrap (((((lw (l :: r)).get! (Int.toNat 0)).toNat : Int)) - 97) = (l : Int) := by
        have h1 : l < k := h0
        rw [show Int.toNat 0 = 0 from rfl, lw_get (l := l :: r) (i := 0) (by simp) (by simp; omega)]
        rw [show (((97 + (l :: r)[0] : Nat) : Int) - 97) = ((l : Nat) : Int) by simp; omega]
        exact u8_small (by omega)
      have g1' : lpInf (lpOf cfg a47 0 prot H) ([fcan p, .int .i64 n, .string (lw (l :: r)), .int .i64 most, .slice a5 out.length c5, .pointer (some ⟨H.length, 0, some 3⟩), .slice (some ⟨HX.length, 0, some (1 * 1)⟩) 1 1, .slice none 0 0, .bool (!(lw (l :: r)).toList == []), .int .i64 (IntKind.u8.wrap (((((lw (l :: r)).get! (Int.toNat 0)).toNat : Int)) - 97))], HA) = some (e, vs, H') := by rw [hnl, hw0]; exact g1
      have hsz : (0 : Int) < ((lw (l :: r)).size : Int) := by rw [lw_size]; simp
      have hft : Fit .i64 (IntKind.u8.wrap (((((lw (l :: r)).get! (Int.toNat 0)).toNat : Int)) - 97)) := by rw [hw0]; have : l < k := h0; exact fit64 (by omega) (by omega)
      subst hHA; subst hHX
      rcases g2 with ⟨rfl, rfl⟩ | ⟨rfl, rfl⟩
      · rw [hX] at g1' ⊢; exact f47_F_0 all3 hcan rfl hnl (by omega) hsz hft g1'
      · rw [hX] at g1' ⊢; exact f47_F_1 all3 hcan rfl hnl (by omega) hsz hft g1'
end Go.Proofs.Ythjkodbinkiifaa.Am23
set_option linter.unusedVariables false
open Go Go.Proofs.Ythjkodbinkiifaa.Am
namespace Go.Proofs.Ythjkodbinkiifaa.Am23
end Go.Proofs.Ythjkodbinkiifaa.Am23
set_option linter.unusedVariables false
open Go Go.Proofs.Ythjkodbinkiifaa.Am
namespace Go.Proofs.Ythjkodbinkiifaa.Am23
theorem f15_F_0 {x0 : Int} {H : AHeap} {prot : Nat}  : callInf cfg 15 [.int .i64 x0] prot H = some (Value.int .i64 x0, H) :=
  fn_of2 a15 [] (Eq.refl ((Value.int .i64 x0, H) : Value × AHeap)) (by kernel_rfl) rfl
end Go.Proofs.Ythjkodbinkiifaa.Am23
namespace Go.Proofs.Ythjkodbinkiifaa.Am23
open Go Go.Proofs.Ythjkodbinkiifaa.Am

theorem cKnows (prot : Nat) (H : AHeap) : callInf cfg 12 [] prot H = some (.bool true, H) := by
  refine callInf_body ?_
  unfold callWith
  have h : cfg.code 12 = some a12 := rfl
  rw [h]
  rfl

/-! ### The words of a language and those of what is left -/
theorem getD_set {D : List Nat} {i s v : Nat} (hi : i < D.length) : (D.set i v).getD s 0 = if s = i then v else D.getD s 0 := by
  simp only [List.getD_eq_getElem?_getD, List.getElem?_set]
  by_cases h : s = i
  · subst h; simp [hi]
  · rw [if_neg h, if_neg (fun e => h e.symm)]
theorem Good.not {k : Nat} {xs : List Int} {bs : List Bool} (hG : Good k xs bs) : Good k xs (bs.map (!·)) := by
  refine ⟨hG.k1, hG.k8, by simp; exact hG.n1, by simp; exact hG.n5, by simp; exact hG.nx, fun i x hx => ?_⟩
  obtain ⟨t, h1, h2⟩ := hG.r i x hx
  exact ⟨t, h1, by simpa using h2⟩
theorem u64_small {m : Nat} (h : m < 18446744073709551616) : IntKind.u64.wrap (m : Int) = (m : Int) := by
  simp only [IntKind.wrap]
  show (if (false && decide ((m : Int) % (18446744073709551616 : Int) ≥ (9223372036854775808 : Int))) = true then (m : Int) % (18446744073709551616 : Int) - 18446744073709551616 else (m : Int) % (18446744073709551616 : Int)) = _
  rw [if_neg (by simp)]
  omega

end Go.Proofs.Ythjkodbinkiifaa.Am23
set_option linter.unusedVariables false
open Go Go.Proofs.Ythjkodbinkiifaa.Am
namespace Go.Proofs.Ythjkodbinkiifaa.Am23
end Go.Proofs.Ythjkodbinkiifaa.Am23
set_option linter.unusedVariables false
open Go Go.Proofs.Ythjkodbinkiifaa.Am
namespace Go.Proofs.Ythjkodbinkiifaa.Am23
end Go.Proofs.Ythjkodbinkiifaa.Am23
namespace Go.Proofs.Ythjkodbinkiifaa.Am
open Go
end Go.Proofs.Ythjkodbinkiifaa.Am
namespace Go.Proofs.Ythjkodbinkiifaa.Am23
open Go Go.Proofs.Ythjkodbinkiifaa.Am

end Go.Proofs.Ythjkodbinkiifaa.Am23
set_option linter.unusedVariables false
open Go Go.Proofs.Ythjkodbinkiifaa.Am
namespace Go.Proofs.Ythjkodbinkiifaa.Am23
end Go.Proofs.Ythjkodbinkiifaa.Am23
set_option linter.unusedVariables false
open Go Go.Proofs.Ythjkodbinkiifaa.Am
namespace Go.Proofs.Ythjkodbinkiifaa.Am23
end Go.Proofs.Ythjkodbinkiifaa.Am23
namespace Go.Proofs.Ythjkodbinkiifaa.Am23
open Go Go.Proofs.Ythjkodbinkiifaa.Am

end Go.Proofs.Ythjkodbinkiifaa.Am23
set_option linter.unusedVariables false
open Go Go.Proofs.Ythjkodbinkiifaa.Am
namespace Go.Proofs.Ythjkodbinkiifaa.Am23
end Go.Proofs.Ythjkodbinkiifaa.Am23
set_option linter.unusedVariables false
open Go Go.Proofs.Ythjkodbinkiifaa.Am
namespace Go.Proofs.Ythjkodbinkiifaa.Am23
end Go.Proofs.Ythjkodbinkiifaa.Am23
namespace Go.Proofs.Ythjkodbinkiifaa.Am23
open Go Go.Proofs.Ythjkodbinkiifaa.Am

def qs (q : List (Nat × List Nat)) : List Value := q.map fun p => .int .i64 (p.1 : Int)
def qw (q : List (Nat × List Nat)) : List Value := q.map fun p => .string (lw p.2)
structure L66 (k : Nat) (xs : List Int) (n : Nat) (H0 H : AHeap) (vN vA x9 x10 x11 x12 : Value) (o9 o10 o11 o12 : Nat) (b : Bf) : Prop where
  hb : H[H0.length]? = some (bx k vN vA)
  r : Rd H 3 1 vN xs.length (il xs)
  lo : Low H0.length vN
  h9 : Own H 9 1 x9 (some o9) n (sl b.ws)
  h10 : Own H 4 1 x10 (some o10) n (bll b.met)
  h11 : Own H 3 1 x11 (some o11) b.q.length (qs b.q)
  h12 : Own H 9 1 x12 (some o12) b.q.length (qw b.q)
  l9 : H0.length < o9
  l10 : H0.length < o10
  l11 : H0.length < o11
  l12 : H0.length < o12
  d1 : o9 ≠ o10
  d2 : o9 ≠ o11
  d3 : o9 ≠ o12
  d4 : o10 ≠ o11
  d5 : o10 ≠ o12
  d6 : o11 ≠ o12

end Go.Proofs.Ythjkodbinkiifaa.Am23
set_option linter.unusedVariables false
open Go Go.Proofs.Ythjkodbinkiifaa.Am
namespace Go.Proofs.Ythjkodbinkiifaa.Am23
end Go.Proofs.Ythjkodbinkiifaa.Am23
namespace Go.Proofs.Ythjkodbinkiifaa.Am23
open Go Go.Proofs.Ythjkodbinkiifaa.Am

theorem setN {H : AHeap} {p e n prot : Nat} {L : List Value} (h : H[p]? = some (.cells L e n .var)) (hl : L.length = n) (hp : prot ≤ p) (i : Nat) (hi : i < n) {v : Value} (hv : isCell v = true) :
    setCells H prot p n (0 + i) [v] = some (H.set p (.cells (L.set i v) e n .var)) := by
  have := arr_set h hl hp hi hv
  rwa [Nat.mul_one] at this
abbrev lst (k : Nat) (vN vA vc : Value) (low : List Nat) (most : Nat) (vo : Value) : AObj := .cells [.int .i64 k, vN, vA, vc, .string (lw low), .int .i64 most, vo] 79 7 .var
/-- A row that lies apart from what is written. -/
def RowA (q : Nat) (oc oo : Option Nat) (v : Value) : Prop := ∀ id off L n c, v = .slice (some ⟨id, off, some L⟩) n c → id ≠ q ∧ oc ≠ some id ∧ oo ≠ some id
/-- The lister: its table has m rows; what it has listed so far. -/
structure LL (k : Nat) (xs : List Int) (bs : List Bool) (low : List Nat) (most q : Nat) (H : AHeap) (vN vA vc vo : Value) (oc oo : Option Nat) (C : List Value) (out : List (List Nat)) : Prop where
  hb : H[q]? = some (lst k vN vA vc low most vo)
  n : Rd H 3 1 vN xs.length (il xs)
  a : Rd H 4 1 vA bs.length (bll bs)
  sn : RowA q oc oo vN
  sa : RowA q oc oo vA
  can : Own H 23 1 vc oc C.length C
  rows : ∀ j, j < C.length → ∃ v, C[j]? = some v ∧ Rd H 4 1 v bs.length (bll (canL k xs bs j)) ∧ RowA q oc oo v
  out : Own H 9 1 vo oo out.length (sl out)
  lc : ∀ id, oc = some id → q < id
  lo : ∀ id, oo = some id → q < id
  dis : ∀ id, oc = some id → oo ≠ some id
theorem LL.stay {k : Nat} {xs : List Int} {bs : List Bool} {low : List Nat} {most q : Nat} {H H' : AHeap} {vN vA vc vo : Value} {oc oo : Option Nat} {C : List Value} {out : List (List Nat)} (h : LL k xs bs low most q H vN vA vc vo oc oo C out) (s : Stay none H H') : LL k xs bs low most q H' vN vA vc vo oc oo C out :=
  ⟨by rw [s.2 _ (List.getElem?_eq_some_iff.1 h.hb).1 (by simp)]; exact h.hb, h.n.stay s, h.a.stay s, h.sn, h.sa, h.can.stay s (fun _ _ h => by cases h), fun j hj => by obtain ⟨v, a, b, c⟩ := h.rows j hj; exact ⟨v, a, b.stay s, c⟩, h.out.stay s (fun _ _ h => by cases h), h.lc, h.lo, h.dis⟩

end Go.Proofs.Ythjkodbinkiifaa.Am23
set_option linter.unusedVariables false
open Go Go.Proofs.Ythjkodbinkiifaa.Am
namespace Go.Proofs.Ythjkodbinkiifaa.Am23
end Go.Proofs.Ythjkodbinkiifaa.Am23
namespace Go.Proofs.Ythjkodbinkiifaa.Am23
open Go Go.Proofs.Ythjkodbinkiifaa.Am

/-- One word more. -/
theorem LL.add {k q prot most : Nat} {xs : List Int} {bs : List Bool} {low : List Nat} {H : AHeap} {vN vA vc vo : Value} {oc oo : Option Nat} {C : List Value} {out : List (List Nat)} (hL : LL k xs bs low most q H vN vA vc vo oc oo C out) (hp : prot ≤ q) (ho : out.length ≤ 1000) (u : List Nat) :
    ∃ a' c' H1 o' H2, aappend cfg.P prot true 43 43 vo (.slice (some ⟨H.length, 0, some (1 * 1)⟩) 1 1) (H ++ [.cells [.string (lw u)] 9 [Value.string (lw u)].length .row]) = some (.slice a' (out.length + 1) c', H1) ∧ setCells H1 prot q 7 (0 + 6) [.slice a' (out.length + 1) c'] = some H2 ∧
      LL k xs bs low most q H2 vN vA vc (.slice a' (out.length + 1) c') oc (some o') C (out ++ [u]) ∧ H.length ≤ H2.length := by
  have hq := (List.getElem?_eq_some_iff.1 hL.hb).1
  obtain ⟨a', c', o', H1, q1, q2, q3, q4, q5, q6⟩ := own_app T43 hL.out (ecs := [.string (lw u)]) rfl rfl (prot := prot) (room := true) (fun id hh => by have := hL.lo id hh; omega) (by omega) (by omega) (L := 1 * 1) rfl (el := [Value.string (lw u)].length) rfl
  have e1 : sl out ++ [.string (lw u)] = sl (out ++ [u]) := by simp [sl]
  rw [e1] at q2
  have hoq : oo ≠ some q := fun h => by have := hL.lo q h; omega
  have hb1 : H1[q]? = some (lst k vN vA vc low most vo) := by rw [q3.2 q hq hoq]; exact hL.hb
  obtain ⟨H2, hH2⟩ : ∃ H2, H2 = H1.set q (lst k vN vA vc low most (.slice a' (out.length + 1) c')) := ⟨_, rfl⟩
  have s2 : Stay (some q) H1 H2 := by rw [hH2]; exact set_stay
  have hset : setCells H1 prot q 7 (0 + 6) [.slice a' (out.length + 1) c'] = some H2 := by rw [hH2]; exact setN hb1 rfl hp 6 (by omega) rfl
  have hocl : ∀ id, oc = some id → id < H.length := fun id h => by have := hL.can; rw [h] at this; exact own_lt this
  have ho'q : q < o' := by
    cases h : oo with
    | none => have := q5 h; omega
    | some i => have := q6 i h; have := hL.lo i h; omega
  have rowA : ∀ (v : Value) (e n : Nat) (cs : List Value), Rd H e 1 v n cs → RowA q oc oo v → Rd H2 e 1 v n cs ∧ RowA q oc (some o') v := fun v e n cs hv hr => by
    refine ⟨(hv.stayNe q3 (fun id off L n c e => (hr id off L n c e).2.2)).stayNe s2 (fun id off L n c e h => (hr id off L n c e).1 (Option.some.inj h).symm), fun id off L n c e => ?_⟩
    obtain ⟨r1, r2, r3⟩ := hr id off L n c e
    refine ⟨r1, r2, fun h => ?_⟩
    have h := Option.some.inj h
    cases ho : oo with
    | none => have := q5 ho; have := hv.low id off L n c e; omega
    | some i => have := q6 i ho; exact r3 (by rw [ho, ← this, h])
  have l1 := q3.1
  refine ⟨a', c', H1, o', H2, q1, hset, ⟨by rw [hH2, List.getElem?_set_self (by omega)], (rowA _ _ _ _ hL.n hL.sn).1, (rowA _ _ _ _ hL.a hL.sa).1, (rowA _ _ _ _ hL.n hL.sn).2, (rowA _ _ _ _ hL.a hL.sa).2, ?_, fun j hj => ?_, ?_, hL.lc, fun id h => by cases h; exact ho'q, fun id h h2 => ?_⟩, by rw [hH2, List.length_set]; exact l1⟩
  · exact (hL.can.stay q3 (fun id h1 h2 => hL.dis id h1 h2)).stay s2 (fun id h1 h2 => by have := hL.lc id h1; have := Option.some.inj h2; omega)
  · obtain ⟨v, v1, v2, v3⟩ := hL.rows j hj
    exact ⟨v, v1, (rowA _ _ _ _ v2 v3).1, (rowA _ _ _ _ v2 v3).2⟩
  · rw [List.length_append, List.length_singleton]
    exact q2.stay s2 (fun id h1 h2 => by cases h1; have := Option.some.inj h2; omega)
  · have e := Option.some.inj h2
    subst e
    cases ho : oo with
    | none => have := q5 ho; have := hocl _ h; omega
    | some i => have := q6 i ho; subst this; exact hL.dis _ h ho

def loT (low : List Nat) (t : Bool) (u : List Nat) : Option (List Nat) := if t then some (low.drop u.length) else none
end Go.Proofs.Ythjkodbinkiifaa.Am23
namespace Go.Proofs.Ythjkodbinkiifaa.Am23
/-! Which words are listed; in which order; how many. -/
def lexLt : List Nat → List Nat → Bool
  | a :: u, b :: v => decide (a < b) || (decide (a = b) && lexLt u v)
  | _, _ => false
def notLow : Option (List Nat) → List Nat → Bool
  | none, _ => true
  | some l, w => !lexLt w l
/-- Order of words: length, then letters. -/
def slx (u v : List Nat) : Bool := decide (u.length < v.length) || (decide (u.length = v.length) && lexLt u v)
theorem lexLt_irr : ∀ u, lexLt u u = false
  | [] => rfl
  | a :: u => by simp [lexLt, lexLt_irr u]
theorem lexLt_trans : ∀ u v w, lexLt u v = true → lexLt v w = true → lexLt u w = true
  | a :: u, b :: v, c :: w, h1, h2 => by
    simp only [lexLt, Bool.or_eq_true, Bool.and_eq_true, decide_eq_true_eq] at h1 h2 ⊢
    rcases h1 with h1 | ⟨h1, h3⟩ <;> rcases h2 with h2 | ⟨h2, h4⟩
    · left; omega
    · left; omega
    · left; omega
    · right; exact ⟨by omega, lexLt_trans u v w h3 h4⟩
  | [], _, _, h1, _ => by simp [lexLt] at h1
  | _ :: _, [], _, h1, _ => by simp [lexLt] at h1
  | _ :: _, _ :: _, [], _, h2 => by simp [lexLt] at h2
theorem slx_irr (u) : slx u u = false := by simp [slx, lexLt_irr]
theorem slx_trans {u v w : List Nat} (h1 : slx u v = true) (h2 : slx v w = true) : slx u w = true := by
  simp only [slx, Bool.or_eq_true, Bool.and_eq_true, decide_eq_true_eq] at h1 h2 ⊢
  rcases h1 with h1 | ⟨h1, h3⟩ <;> rcases h2 with h2 | ⟨h2, h4⟩
  · left; omega
  · left; omega
  · left; omega
  · right; exact ⟨by omega, lexLt_trans u v w h3 h4⟩
theorem slx_asym {u v : List Nat} (h : slx u v = true) : slx v u = false := by
  cases h2 : slx v u with
  | false => rfl
  | true => have := slx_trans h h2; rw [slx_irr] at this; cases this

theorem mem_fromW {f : Nat → List (List Nat)} {w : List Nat} : ∀ d c, w ∈ fromW f d c ↔ ∃ i, c ≤ i ∧ i < c + d ∧ w ∈ f i
  | 0, c => ⟨fun h => by simp [fromW] at h, fun ⟨i, h1, h2, _⟩ => by omega⟩
  | d + 1, c => by
    rw [fromW, List.mem_append, mem_fromW d (c + 1)]
    constructor
    · rintro (h | ⟨i, h1, h2, h3⟩)
      · exact ⟨c, Nat.le_refl _, by omega, h⟩
      · exact ⟨i, by omega, by omega, h3⟩
    · rintro ⟨i, h1, h2, h3⟩
      by_cases h : i = c
      · subst h; exact .inl h3
      · exact .inr ⟨i, by omega, by omega, h3⟩
section
variable (k : Nat) (stp : Nat → Nat → Nat) (acc : Nat → Bool)

theorem mem_allW : ∀ m s low w, (∀ l, low = some l → l.length = m) → (w ∈ allW k stp acc m s low ↔ w.length = m ∧ (∀ c ∈ w, c < k) ∧ acc (w.foldl stp s) = true ∧ notLow low w = true)
  | 0, s, low, w, hl => by
    have hn : w.length = 0 → notLow low w = true := fun h => by
      cases low with
      | none => rfl
      | some l =>
        have h1 := List.eq_nil_of_length_eq_zero h
        have h2 := List.eq_nil_of_length_eq_zero (hl l rfl)
        rw [h1, h2]; rfl
    rw [allW]
    by_cases ha : acc s = true
    · rw [if_pos ha, List.mem_singleton]
      refine ⟨fun h => by subst h; exact ⟨rfl, by simp, ha, hn rfl⟩, fun h => List.eq_nil_of_length_eq_zero h.1⟩
    · rw [if_neg ha]
      refine ⟨fun h => by simp at h, fun h => ?_⟩
      have := List.eq_nil_of_length_eq_zero h.1
      subst this
      exact absurd h.2.2.1 ha
  | m + 1, s, low, w, hl => by
    rw [allW, mem_fromW]
    have htl : ∀ i l, tlO low i = some l → l.length = m := fun i l h => by
      cases low with
      | none => cases h
      | some l0 =>
        cases l0 with
        | nil => cases h
        | cons a r =>
          have := hl _ rfl
          simp only [tlO] at h
          split at h
          · cases h; simpa using this
          · cases h
    have hlow : ∀ i v, lowC low i = false → notLow (tlO low i) v = notLow low (i :: v) := fun i v h => by
      cases low with
      | none => rfl
      | some l0 =>
        cases l0 with
        | nil => have := hl _ rfl; simp at this
        | cons a r =>
          have h' : decide (i < a) = false := h
          have h1 : ¬ i < a := by simpa using h'
          by_cases h2 : i = a
          · subst h2
            simp [tlO, notLow, lexLt]
          · have : tlO (some (a :: r)) i = none := by simp [tlO, h2]
            rw [this]
            simp [notLow, lexLt, h1, h2]
    have hlow2 : ∀ i v, lowC low i = true → notLow low (i :: v) = false := fun i v h => by
      cases low with
      | none => cases h
      | some l0 =>
        cases l0 with
        | nil => cases h
        | cons a r =>
          have h' : decide (i < a) = true := h
          have h1 : i < a := by simpa using h'
          simp [notLow, lexLt, h1]
    constructor
    · rintro ⟨i, _, hi, h⟩
      by_cases hc : lowC low i = true
      · rw [if_pos hc] at h; simp at h
      · rw [if_neg hc, List.mem_map] at h
        obtain ⟨v, hv, rfl⟩ := h
        obtain ⟨h1, h2, h3, h4⟩ := (mem_allW m _ _ v (htl i)).1 hv
        rw [hlow i v (by simpa using hc)] at h4
        refine ⟨by simp [h1], fun c hcm => ?_, h3, h4⟩
        rw [List.mem_cons] at hcm
        rcases hcm with rfl | hcm
        · omega
        · exact h2 c hcm
    · rintro ⟨h1, h2, h3, h4⟩
      cases w with
      | nil => simp at h1
      | cons i v =>
        refine ⟨i, Nat.zero_le _, by have := h2 i (by simp); omega, ?_⟩
        have hc : ¬ lowC low i = true := fun hc => by rw [hlow2 i v hc] at h4; cases h4
        rw [if_neg hc, List.mem_map]
        exact ⟨v, (mem_allW m _ _ v (htl i)).2 ⟨by simpa using h1, fun c hcm => h2 c (by simp [hcm]), h3, by rw [hlow i v (by simpa using hc)]; exact h4⟩, rfl⟩

theorem allW_sorted : ∀ m s low, (allW k stp acc m s low).Pairwise fun a b => lexLt a b = true
  | 0, s, low => by
    rw [allW]
    split
    · exact List.pairwise_singleton _ _
    · exact List.Pairwise.nil
  | m + 1, s, low => by
    rw [allW]
    have hf : ∀ i w, w ∈ (if lowC low i = true then [] else (allW k stp acc m (stp s i) (tlO low i)).map (i :: ·)) → ∃ v, w = i :: v := fun i w h => by
      split at h
      · simp at h
      · rw [List.mem_map] at h
        obtain ⟨v, _, rfl⟩ := h
        exact ⟨v, rfl⟩
    have key : ∀ d c, (fromW (fun c => if lowC low c = true then [] else (allW k stp acc m (stp s c) (tlO low c)).map (c :: ·)) d c).Pairwise fun a b => lexLt a b = true := by
      intro d
      induction d with
      | zero => intro c; exact List.Pairwise.nil
      | succ d ih =>
        intro c
        rw [fromW, List.pairwise_append]
        refine ⟨?_, ih (c + 1), fun a ha b hb => ?_⟩
        · split
          · exact List.Pairwise.nil
          · rw [List.pairwise_map]
            refine (allW_sorted m _ _).imp fun {a b} h => ?_
            simp [lexLt, h]
        · obtain ⟨u, rfl⟩ := hf c a ha
          rw [mem_fromW] at hb
          obtain ⟨i, hi, _, hb⟩ := hb
          obtain ⟨v, rfl⟩ := hf i b hb
          simp only [lexLt, Bool.or_eq_true, decide_eq_true_eq]
          left; omega
    exact key k 0

/-- How many there are. -/
def sumW (f : Nat → Nat) : Nat → Nat → Nat
  | 0, _ => 0
  | d + 1, c => f c + sumW f d (c + 1)
theorem fromW_length {f : Nat → List (List Nat)} : ∀ d c, (fromW f d c).length = sumW (fun i => (f i).length) d c
  | 0, _ => rfl
  | d + 1, c => by rw [fromW, List.length_append, fromW_length d (c + 1)]; rfl
theorem allW_length (m s : Nat) : (allW k stp acc (m + 1) s none).length = sumW (fun c => (allW k stp acc m (stp s c) none).length) k 0 := by
  rw [allW_none, fromW_length]
  congr 1
  funext i
  rw [List.length_map]
end
end Go.Proofs.Ythjkodbinkiifaa.Am23
namespace Go.Proofs.Ythjkodbinkiifaa.Am23
section
variable (k : Nat) (stp : Nat → Nat → Nat) (acc : Nat → Bool) (low : List Nat)
/-- The bound, for the words that are as long as it is. -/
def lowO (n : Nat) : Option (List Nat) := if n = low.length ∧ low ≠ [] then some low else none
/-- All words of n letters, of n + 1 .., not ahead of a word. -/
def tailW : Nat → Nat → List (List Nat)
  | 0, _ => []
  | d + 1, n => allW k stp acc n 0 (lowO low n) ++ tailW d (n + 1)
theorem lowO_len {n : Nat} : ∀ l, lowO low n = some l → l.length = n := fun l h => by
  unfold lowO at h
  split at h
  · cases h; rename_i h2; exact h2.1.symm
  · cases h
theorem lowO_not (w : List Nat) : notLow (lowO low w.length) w = true ↔ (w.length = low.length → lexLt w low = false) := by
  unfold lowO
  split
  · rename_i h
    simp [notLow, h.1]
  · rename_i h
    simp only [notLow, true_iff]
    intro h1
    have : low = [] := Classical.byContradiction fun h2 => h ⟨h1, h2⟩
    subst this
    cases w <;> rfl
theorem mem_tailW (w : List Nat) : ∀ d n, w ∈ tailW k stp acc low d n ↔ n ≤ w.length ∧ w.length < n + d ∧ (∀ c ∈ w, c < k) ∧ acc (w.foldl stp 0) = true ∧ (w.length = low.length → lexLt w low = false)
  | 0, n => ⟨fun h => by simp [tailW] at h, fun h => by omega⟩
  | d + 1, n => by
    rw [tailW, List.mem_append, mem_allW k stp acc n 0 _ w (lowO_len low), mem_tailW w d (n + 1)]
    constructor
    · rintro (⟨h1, h2, h3, h4⟩ | ⟨h1, h2, h3⟩)
      · subst h1
        exact ⟨Nat.le_refl _, by omega, h2, h3, (lowO_not low w).1 h4⟩
      · exact ⟨by omega, by omega, h3⟩
    · rintro ⟨h1, h2, h3, h4, h5⟩
      by_cases h : w.length = n
      · subst h
        exact .inl ⟨rfl, h3, h4, (lowO_not low w).2 h5⟩
      · exact .inr ⟨by omega, by omega, h3, h4, h5⟩
theorem tailW_sorted : ∀ d n, (tailW k stp acc low d n).Pairwise fun a b => slx a b = true
  | 0, n => List.Pairwise.nil
  | d + 1, n => by
    rw [tailW, List.pairwise_append]
    have hl : ∀ w ∈ allW k stp acc n 0 (lowO low n), w.length = n := fun w hw => (allW_len k stp acc n 0 _ w hw).1
    refine ⟨(allW_sorted k stp acc n 0 _).imp_of_mem fun {a b} ha hb h => ?_, tailW_sorted d (n + 1), fun a ha b hb => ?_⟩
    · simp [slx, hl a ha, hl b hb, h]
    · have h1 := hl a ha
      have h2 := (mem_tailW k stp acc low b d (n + 1)).1 hb
      simp only [slx, Bool.or_eq_true, decide_eq_true_eq]
      left; omega
/-- Length by length, as far as there is room. -/
def runW (most : Nat) : Nat → Nat → List (List Nat) → List (List Nat)
  | 0, _, out => out
  | d + 1, n, out => if out.length < most then runW most d (n + 1) ((out ++ allW k stp acc n 0 (lowO low n)).take most) else out
theorem runW_eq (most : Nat) : ∀ d n out, out.length ≤ most → runW k stp acc low most d n out = (out ++ tailW k stp acc low d n).take most
  | 0, n, out, h => by rw [runW, tailW, List.append_nil, List.take_of_length_le h]
  | d + 1, n, out, h => by
    rw [runW]
    split
    · rw [runW_eq most d (n + 1) _ (by rw [List.length_take]; omega), tailW, take_app]
    · rw [List.take_append_of_le_length (by omega), List.take_of_length_le h]
/-- The words that are listed. -/
def wordsL (most : Nat) : List (List Nat) := (tailW k stp acc low (4097 - low.length) low.length).take most

theorem mem_take {T : List (List Nat)} (hT : T.Pairwise fun a b => slx a b = true) (N : Nat) (a : List Nat) :
    a ∈ T.take N ↔ a ∈ T ∧ ((T.take N).length < N ∨ (0 < N ∧ slx ((T.take N).getD ((T.take N).length - 1) []) a = false)) := by
  by_cases hl : T.length < N
  · rw [List.take_of_length_le (by omega)]
    exact ⟨fun h => ⟨h, .inl hl⟩, fun h => h.1⟩
  · have hlen : (T.take N).length = N := by rw [List.length_take]; omega
    rw [hlen]
    have hsp := List.take_append_drop N T
    have hT' := hT
    rw [← hsp, List.pairwise_append] at hT'
    obtain ⟨p1, p2, p3⟩ := hT'
    by_cases hN : N = 0
    · subst hN; simp
    · have hz : (T.take N).getD (N - 1) [] = (T.take N)[N - 1]'(by omega) := by rw [List.getD_eq_getElem?_getD, List.getElem?_eq_getElem (by omega)]; rfl
      constructor
      · intro h
        refine ⟨List.mem_of_mem_take h, .inr ⟨by omega, ?_⟩⟩
        obtain ⟨i, hi, rfl⟩ := List.getElem_of_mem h
        rw [hz]
        by_cases h2 : i = N - 1
        · subst h2; exact slx_irr _
        · exact slx_asym (List.pairwise_iff_getElem.1 p1 i (N - 1) hi (by omega) (by omega))
      · rintro ⟨h1, h2 | ⟨_, h2⟩⟩
        · omega
        · rw [← hsp, List.mem_append] at h1
          rcases h1 with h1 | h1
          · exact h1
          · have := p3 ((T.take N)[N - 1]'(by omega)) (List.getElem_mem _) a h1
            rw [hz, this] at h2
            cases h2
theorem count_tailW (n0 : Nat) : ∀ d n, n ≤ n0 → n0 < n + d → (tailW k stp acc [] d n).countP (fun w => decide (w.length = n0)) = (allW k stp acc n0 0 none).length
  | 0, n, h1, h2 => by omega
  | d + 1, n, h1, h2 => by
    have hlo : lowO [] n = none := by unfold lowO; rw [if_neg (by simp)]
    rw [tailW, hlo, List.countP_append]
    by_cases h : n = n0
    · subst h
      have e1 : (allW k stp acc n 0 none).countP (fun w => decide (w.length = n)) = (allW k stp acc n 0 none).length := by
        rw [List.countP_eq_length]
        intro w hw
        simpa using (allW_len k stp acc n 0 _ w hw).1
      have e2 : (tailW k stp acc [] d (n + 1)).countP (fun w => decide (w.length = n)) = 0 := by
        rw [List.countP_eq_zero]
        intro w hw
        have := ((mem_tailW k stp acc [] w d (n + 1)).1 hw).1
        simp; omega
      rw [e1, e2]; rfl
    · have e1 : (allW k stp acc n 0 none).countP (fun w => decide (w.length = n0)) = 0 := by
        rw [List.countP_eq_zero]
        intro w hw
        have := (allW_len k stp acc n 0 _ w hw).1
        simp; omega
      rw [e1, count_tailW n0 d (n + 1) (by omega) (by omega), Nat.zero_add]
/-- Of each length but the last one's all words are there. -/
theorem count_wordsL {most n : Nat} (h0 : 0 < (wordsL k stp acc [] most).length) (hn : n < ((wordsL k stp acc [] most).getD ((wordsL k stp acc [] most).length - 1) []).length) :
    (wordsL k stp acc [] most).countP (fun w => decide (w.length = n)) = (allW k stp acc n 0 none).length := by
  have hs := tailW_sorted k stp acc [] 4097 0
  have hz : (wordsL k stp acc [] most).getD ((wordsL k stp acc [] most).length - 1) [] = (wordsL k stp acc [] most)[(wordsL k stp acc [] most).length - 1]'(by omega) := by
    rw [List.getD_eq_getElem?_getD, List.getElem?_eq_getElem (by omega)]; rfl
  rw [hz] at hn
  have hzm : (wordsL k stp acc [] most)[(wordsL k stp acc [] most).length - 1]'(by omega) ∈ tailW k stp acc [] 4097 0 := List.mem_of_mem_take (List.getElem_mem _)
  have hz4 := ((mem_tailW k stp acc [] _ _ _).1 hzm).2.1
  rw [← count_tailW k stp acc n 4097 0 (Nat.zero_le _) (by omega)]
  have hsp := List.take_append_drop most (tailW k stp acc [] 4097 0)
  have hd : ((tailW k stp acc [] 4097 0).drop most).countP (fun w => decide (w.length = n)) = 0 := by
    rw [List.countP_eq_zero]
    intro w hw
    rw [← hsp, List.pairwise_append] at hs
    have := hs.2.2 _ (List.getElem_mem (l := wordsL k stp acc [] most) (by omega : (wordsL k stp acc [] most).length - 1 < _)) w hw
    simp only [slx, Bool.or_eq_true, Bool.and_eq_true, decide_eq_true_eq] at this
    simp
    omega
  have : (tailW k stp acc [] 4097 0).countP (fun w => decide (w.length = n)) = ((tailW k stp acc [] 4097 0).take most).countP (fun w => decide (w.length = n)) := by
    conv => lhs; rw [← hsp]
    rw [List.countP_append, hd, Nat.add_zero]
  rw [this]
  rfl
end
end Go.Proofs.Ythjkodbinkiifaa.Am23
set_option linter.unusedVariables false
open Go Go.Proofs.Ythjkodbinkiifaa.Am
namespace Go.Proofs.Ythjkodbinkiifaa.Am23
theorem f23_F_0 {x0a : Int} {x0ba : Option Addr} {x0bn x0bc : Nat} {x0ca : Option Addr} {x0cn x0cc : Nat} {x1 : ByteArray} {x2 : Int} {H : AHeap} {prot : Nat} {x14a : Int} {x14ba : Option Addr} {x14bn x14bc : Nat} {x14ca : Option Addr} {x14cn x14cc : Nat} {x15 : Int} (h1 : [Value.int .i64 x0a, Value.slice x0ba x0bn x0bc, Value.slice x0ca x0cn x0cc].all isCell = true) (h2 : getCells (H ++ [vo [Value.int .i64 x0a, Value.slice x0ba x0bn x0bc, Value.slice x0ca x0cn x0cc] 25]) (List.length H) [Value.int .i64 x0a, Value.slice x0ba x0bn x0bc, Value.slice x0ca x0cn x0cc].length 0 3 = some [Value.int .i64 x14a, Value.slice x14ba x14bn x14bc, Value.slice x14ca x14cn x14cc]) (h3 : callInf cfg 36 [Value.agg { toList := [Value.int .i64 x14a, Value.slice x14ba x14bn x14bc, Value.slice x14ca x14cn x14cc] }] (List.length H) (H ++ [vo [Value.int .i64 x0a, Value.slice x0ba x0bn x0bc, Value.slice x0ca x0cn x0cc] 25]) = some (Value.int .i64 x15, H ++ [vo [Value.int .i64 x0a, Value.slice x0ba x0bn x0bc, Value.slice x0ca x0cn x0cc] 25])) (h4 : (x15 != 0) = true) : callInf cfg 23 [.agg #[.int .i64 x0a, .slice x0ba x0bn x0bc, .slice x0ca x0cn x0cc], .string x1, .int .i64 x2] prot H = some (Value.tuple { toList := [Value.slice none 0 0, Value.int .i64 x15] }, H) :=
  fn_of2 a23 [.e, .v (.agg #[.int .i64 x14a, .slice x14ba x14bn x14bc, .slice x14ca x14cn x14cc]), .v (.int .i64 x15), .e, .b true] (ai h1 (ai h2 (ai h3 (ai h4 (Eq.refl ((Value.tuple { toList := [Value.slice none 0 0, Value.int .i64 x15] }, H) : Value × AHeap)))))) (by kernel_rfl) rfl
theorem f23_F_1 {x0a : Int} {x0ba : Option Addr} {x0bn x0bc : Nat} {x0ca : Option Addr} {x0cn x0cc : Nat} {x1 : ByteArray} {x2 : Int} {H : AHeap} {prot : Nat} {x14a : Int} {x14ba : Option Addr} {x14bn x14bc : Nat} {x14ca : Option Addr} {x14cn x14cc : Nat} {x15 : Int} (h1 : [Value.int .i64 x0a, Value.slice x0ba x0bn x0bc, Value.slice x0ca x0cn x0cc].all isCell = true) (h2 : getCells (H ++ [vo [Value.int .i64 x0a, Value.slice x0ba x0bn x0bc, Value.slice x0ca x0cn x0cc] 25]) (List.length H) [Value.int .i64 x0a, Value.slice x0ba x0bn x0bc, Value.slice x0ca x0cn x0cc].length 0 3 = some [Value.int .i64 x14a, Value.slice x14ba x14bn x14bc, Value.slice x14ca x14cn x14cc]) (h3 : callInf cfg 36 [Value.agg { toList := [Value.int .i64 x14a, Value.slice x14ba x14bn x14bc, Value.slice x14ca x14cn x14cc] }] (List.length H) (H ++ [vo [Value.int .i64 x0a, Value.slice x0ba x0bn x0bc, Value.slice x0ca x0cn x0cc] 25]) = some (Value.int .i64 x15, H ++ [vo [Value.int .i64 x0a, Value.slice x0ba x0bn x0bc, Value.slice x0ca x0cn x0cc] 25])) (h4 : (x15 != 0) = false) (h5 : x2 < 0) : callInf cfg 23 [.agg #[.int .i64 x0a, .slice x0ba x0bn x0bc, .slice x0ca x0cn x0cc], .string x1, .int .i64 x2] prot H = some (Value.tuple { toList := [Value.slice none 0 0, Value.int .i64 1] }, H) :=
  fn_of2 a23 [.e, .v (.agg #[.int .i64 x14a, .slice x14ba x14bn x14bc, .slice x14ca x14cn x14cc]), .v (.int .i64 x15), .e, .b false, .e, .b true] (ai h1 (ai h2 (ai h3 (ai h4 (ai (decide_eq_true h5) (Eq.refl ((Value.tuple { toList := [Value.slice none 0 0, Value.int .i64 1] }, H) : Value × AHeap))))))) (by kernel_rfl) rfl
theorem f23_F_2 {x0a : Int} {x0ba : Option Addr} {x0bn x0bc : Nat} {x0ca : Option Addr} {x0cn x0cc : Nat} {x1 : ByteArray} {x2 : Int} {H : AHeap} {prot : Nat} {x14a : Int} {x14ba : Option Addr} {x14bn x14bc : Nat} {x14ca : Option Addr} {x14cn x14cc : Nat} {x15 : Int} (h1 : [Value.int .i64 x0a, Value.slice x0ba x0bn x0bc, Value.slice x0ca x0cn x0cc].all isCell = true) (h2 : getCells (H ++ [vo [Value.int .i64 x0a, Value.slice x0ba x0bn x0bc, Value.slice x0ca x0cn x0cc] 25]) (List.length H) [Value.int .i64 x0a, Value.slice x0ba x0bn x0bc, Value.slice x0ca x0cn x0cc].length 0 3 = some [Value.int .i64 x14a, Value.slice x14ba x14bn x14bc, Value.slice x14ca x14cn x14cc]) (h3 : callInf cfg 36 [Value.agg { toList := [Value.int .i64 x14a, Value.slice x14ba x14bn x14bc, Value.slice x14ca x14cn x14cc] }] (List.length H) (H ++ [vo [Value.int .i64 x0a, Value.slice x0ba x0bn x0bc, Value.slice x0ca x0cn x0cc] 25]) = some (Value.int .i64 x15, H ++ [vo [Value.int .i64 x0a, Value.slice x0ba x0bn x0bc, Value.slice x0ca x0cn x0cc] 25])) (h4 : (x15 != 0) = false) (h5 : ¬(x2 < 0)) (h6 : x2 > 1000) : callInf cfg 23 [.agg #[.int .i64 x0a, .slice x0ba x0bn x0bc, .slice x0ca x0cn x0cc], .string x1, .int .i64 x2] prot H = some (Value.tuple { toList := [Value.slice none 0 0, Value.int .i64 6] }, H) :=
  fn_of2 a23 [.e, .v (.agg #[.int .i64 x14a, .slice x14ba x14bn x14bc, .slice x14ca x14cn x14cc]), .v (.int .i64 x15), .e, .b false, .e, .b false, .e, .b true] (ai h1 (ai h2 (ai h3 (ai h4 (ai (decide_eq_false h5) (ai (decide_eq_true h6) (Eq.refl ((Value.tuple { toList := [Value.slice none 0 0, Value.int .i64 6] }, H) : Value × AHeap)))))))) (by kernel_rfl) rfl
theorem f23_F_3 {x0a : Int} {x0ba : Option Addr} {x0bn x0bc : Nat} {x0ca : Option Addr} {x0cn x0cc : Nat} {x1 : ByteArray} {x2 : Int} {H : AHeap} {prot : Nat} {x14a : Int} {x14ba : Option Addr} {x14bn x14bc : Nat} {x14ca : Option Addr} {x14cn x14cc : Nat} {x15 x27 x29 : Int} (h1 : [Value.int .i64 x0a, Value.slice x0ba x0bn x0bc, Value.slice x0ca x0cn x0cc].all isCell = true) (h2 : getCells (H ++ [vo [Value.int .i64 x0a, Value.slice x0ba x0bn x0bc, Value.slice x0ca x0cn x0cc] 25]) (List.length H) [Value.int .i64 x0a, Value.slice x0ba x0bn x0bc, Value.slice x0ca x0cn x0cc].length 0 3 = some [Value.int .i64 x14a, Value.slice x14ba x14bn x14bc, Value.slice x14ca x14cn x14cc]) (h3 : callInf cfg 36 [Value.agg { toList := [Value.int .i64 x14a, Value.slice x14ba x14bn x14bc, Value.slice x14ca x14cn x14cc] }] (List.length H) (H ++ [vo [Value.int .i64 x0a, Value.slice x0ba x0bn x0bc, Value.slice x0ca x0cn x0cc] 25]) = some (Value.int .i64 x15, H ++ [vo [Value.int .i64 x0a, Value.slice x0ba x0bn x0bc, Value.slice x0ca x0cn x0cc] 25])) (h4 : (x15 != 0) = false) (h5 : ¬(x2 < 0)) (h6 : ¬(x2 > 1000)) (h7 : getCells (H ++ [vo [Value.int .i64 x0a, Value.slice x0ba x0bn x0bc, Value.slice x0ca x0cn x0cc] 25]) (List.length H) [Value.int .i64 x0a, Value.slice x0ba x0bn x0bc, Value.slice x0ca x0cn x0cc].length (0 + 0) 1 = some [Value.int .i64 x27]) (h8 : callInf cfg 44 [Value.int .i64 x27, Value.string x1] (List.length H) (H ++ [vo [Value.int .i64 x0a, Value.slice x0ba x0bn x0bc, Value.slice x0ca x0cn x0cc] 25]) = some (Value.int .i64 x29, H ++ [vo [Value.int .i64 x0a, Value.slice x0ba x0bn x0bc, Value.slice x0ca x0cn x0cc] 25])) (h9 : (x29 != 0) = true) : callInf cfg 23 [.agg #[.int .i64 x0a, .slice x0ba x0bn x0bc, .slice x0ca x0cn x0cc], .string x1, .int .i64 x2] prot H = some (Value.tuple { toList := [Value.slice none 0 0, Value.int .i64 21] }, H) :=
  fn_of2 a23 [.e, .v (.agg #[.int .i64 x14a, .slice x14ba x14bn x14bc, .slice x14ca x14cn x14cc]), .v (.int .i64 x15), .e, .b false, .e, .b false, .e, .b false, .v (.int .i64 x27), .v (.int .i64 x29), .e, .b true] (ai h1 (ai h2 (ai h3 (ai h4 (ai (decide_eq_false h5) (ai (decide_eq_false h6) (ai h7 (ai h8 (ai h9 (Eq.refl ((Value.tuple { toList := [Value.slice none 0 0, Value.int .i64 21] }, H) : Value × AHeap))))))))))) (by kernel_rfl) rfl
theorem f23_F_4 {x0a : Int} {x0ba : Option Addr} {x0bn x0bc : Nat} {x0ca : Option Addr} {x0cn x0cc : Nat} {x1 : ByteArray} {x2 : Int} {H : AHeap} {prot : Nat} {x14a : Int} {x14ba : Option Addr} {x14bn x14bc : Nat} {x14ca : Option Addr} {x14cn x14cc : Nat} {x15 x27 x29 : Int} (h1 : [Value.int .i64 x0a, Value.slice x0ba x0bn x0bc, Value.slice x0ca x0cn x0cc].all isCell = true) (h2 : getCells (H ++ [vo [Value.int .i64 x0a, Value.slice x0ba x0bn x0bc, Value.slice x0ca x0cn x0cc] 25]) (List.length H) [Value.int .i64 x0a, Value.slice x0ba x0bn x0bc, Value.slice x0ca x0cn x0cc].length 0 3 = some [Value.int .i64 x14a, Value.slice x14ba x14bn x14bc, Value.slice x14ca x14cn x14cc]) (h3 : callInf cfg 36 [Value.agg { toList := [Value.int .i64 x14a, Value.slice x14ba x14bn x14bc, Value.slice x14ca x14cn x14cc] }] (List.length H) (H ++ [vo [Value.int .i64 x0a, Value.slice x0ba x0bn x0bc, Value.slice x0ca x0cn x0cc] 25]) = some (Value.int .i64 x15, H ++ [vo [Value.int .i64 x0a, Value.slice x0ba x0bn x0bc, Value.slice x0ca x0cn x0cc] 25])) (h4 : (x15 != 0) = false) (h5 : ¬(x2 < 0)) (h6 : ¬(x2 > 1000)) (h7 : getCells (H ++ [vo [Value.int .i64 x0a, Value.slice x0ba x0bn x0bc, Value.slice x0ca x0cn x0cc] 25]) (List.length H) [Value.int .i64 x0a, Value.slice x0ba x0bn x0bc, Value.slice x0ca x0cn x0cc].length (0 + 0) 1 = some [Value.int .i64 x27]) (h8 : callInf cfg 44 [Value.int .i64 x27, Value.string x1] (List.length H) (H ++ [vo [Value.int .i64 x0a, Value.slice x0ba x0bn x0bc, Value.slice x0ca x0cn x0cc] 25]) = some (Value.int .i64 x29, H ++ [vo [Value.int .i64 x0a, Value.slice x0ba x0bn x0bc, Value.slice x0ca x0cn x0cc] 25])) (h9 : (x29 != 0) = false) (h10 : (↑x1.size : Int) > 4096) : callInf cfg 23 [.agg #[.int .i64 x0a, .slice x0ba x0bn x0bc, .slice x0ca x0cn x0cc], .string x1, .int .i64 x2] prot H = some (Value.tuple { toList := [Value.slice none 0 0, Value.int .i64 0] }, H) :=
  fn_of2 a23 [.e, .v (.agg #[.int .i64 x14a, .slice x14ba x14bn x14bc, .slice x14ca x14cn x14cc]), .v (.int .i64 x15), .e, .b false, .e, .b false, .e, .b false, .v (.int .i64 x27), .v (.int .i64 x29), .e, .b false, .e, .e, .b true] (ai h1 (ai h2 (ai h3 (ai h4 (ai (decide_eq_false h5) (ai (decide_eq_false h6) (ai h7 (ai h8 (ai h9 (ai (decide_eq_true h10) (Eq.refl ((Value.tuple { toList := [Value.slice none 0 0, Value.int .i64 0] }, H) : Value × AHeap)))))))))))) (by kernel_rfl) rfl
theorem f23_F_5 {x0a : Int} {x0ba : Option Addr} {x0bn x0bc : Nat} {x0ca : Option Addr} {x0cn x0cc : Nat} {x1 : ByteArray} {x2 : Int} {H : AHeap} {prot : Nat} {x14a : Int} {x14ba : Option Addr} {x14bn x14bc : Nat} {x14ca : Option Addr} {x14cn x14cc : Nat} {x15 x27 x29 x34a : Int} {x34ba : Option Addr} {x34bn x34bc : Nat} {x34ca : Option Addr} {x34cn x34cc : Nat} {x35 : Array Value} {H1 : AHeap} {x9p x9o x9l : Nat} {H2 H3 : AHeap} {z11a : Option Addr} {z11n z11c : Nat} {H4 : AHeap} (rv : Value) (rH : AHeap) (h1 : [Value.int .i64 x0a, Value.slice x0ba x0bn x0bc, Value.slice x0ca x0cn x0cc].all isCell = true) (h2 : getCells (H ++ [vo [Value.int .i64 x0a, Value.slice x0ba x0bn x0bc, Value.slice x0ca x0cn x0cc] 25]) (List.length H) [Value.int .i64 x0a, Value.slice x0ba x0bn x0bc, Value.slice x0ca x0cn x0cc].length 0 3 = some [Value.int .i64 x14a, Value.slice x14ba x14bn x14bc, Value.slice x14ca x14cn x14cc]) (h3 : callInf cfg 36 [Value.agg { toList := [Value.int .i64 x14a, Value.slice x14ba x14bn x14bc, Value.slice x14ca x14cn x14cc] }] (List.length H) (H ++ [vo [Value.int .i64 x0a, Value.slice x0ba x0bn x0bc, Value.slice x0ca x0cn x0cc] 25]) = some (Value.int .i64 x15, H ++ [vo [Value.int .i64 x0a, Value.slice x0ba x0bn x0bc, Value.slice x0ca x0cn x0cc] 25])) (h4 : (x15 != 0) = false) (h5 : ¬(x2 < 0)) (h6 : ¬(x2 > 1000)) (h7 : getCells (H ++ [vo [Value.int .i64 x0a, Value.slice x0ba x0bn x0bc, Value.slice x0ca x0cn x0cc] 25]) (List.length H) [Value.int .i64 x0a, Value.slice x0ba x0bn x0bc, Value.slice x0ca x0cn x0cc].length (0 + 0) 1 = some [Value.int .i64 x27]) (h8 : callInf cfg 44 [Value.int .i64 x27, Value.string x1] (List.length H) (H ++ [vo [Value.int .i64 x0a, Value.slice x0ba x0bn x0bc, Value.slice x0ca x0cn x0cc] 25]) = some (Value.int .i64 x29, H ++ [vo [Value.int .i64 x0a, Value.slice x0ba x0bn x0bc, Value.slice x0ca x0cn x0cc] 25])) (h9 : (x29 != 0) = false) (h10 : ¬((↑x1.size : Int) > 4096)) (h11 : getCells (H ++ [vo [Value.int .i64 x0a, Value.slice x0ba x0bn x0bc, Value.slice x0ca x0cn x0cc] 25]) (List.length H) [Value.int .i64 x0a, Value.slice x0ba x0bn x0bc, Value.slice x0ca x0cn x0cc].length 0 3 = some [Value.int .i64 x34a, Value.slice x34ba x34bn x34bc, Value.slice x34ca x34cn x34cc]) (h12 : callInf cfg 45 [Value.agg { toList := [Value.int .i64 x34a, Value.slice x34ba x34bn x34bc, Value.slice x34ca x34cn x34cc] }] (List.length H) (H ++ [vo [Value.int .i64 x0a, Value.slice x0ba x0bn x0bc, Value.slice x0ca x0cn x0cc] 25]) = some (Value.agg x35, H1)) (h13 : aalloc cfg.P 72 H1 = some (Value.pointer (some ⟨x9p, x9o, some x9l⟩), H2)) (h14 : x35.toList.length = 4097) (h15 : setCells H2 (List.length H) x9p x9l x9o x35.toList = some H3) (h16 : lpInf (lpOf cfg a23 0 prot H) ([Value.string x1, Value.int .i64 x2, Value.pointer (some ⟨List.length H, 0, some [Value.int .i64 x0a, Value.slice x0ba x0bn x0bc, Value.slice x0ca x0cn x0cc].length⟩), Value.func (Fn.func 46) { toList := [] } { toList := [Value.pointer (some ⟨x9p, x9o, some x9l⟩)] }, Value.slice none 0 0, Value.int .i64 (↑x1.size : Int)], H3) = some (Ex.exit 1, [Value.slice z11a z11n z11c], H4)) (h17 : pfin a23 H [Value.slice z11a z11n z11c, Value.int .i64 0] H4 = (rv, rH)) : callInf cfg 23 [.agg #[.int .i64 x0a, .slice x0ba x0bn x0bc, .slice x0ca x0cn x0cc], .string x1, .int .i64 x2] prot H = some (rv, rH) :=
  fn_of2 a23 [.e, .v (.agg #[.int .i64 x14a, .slice x14ba x14bn x14bc, .slice x14ca x14cn x14cc]), .v (.int .i64 x15), .e, .b false, .e, .b false, .e, .b false, .v (.int .i64 x27), .v (.int .i64 x29), .e, .b false, .e, .e, .b false, .v (.agg #[.int .i64 x34a, .slice x34ba x34bn x34bc, .slice x34ca x34cn x34cc]), .r (.agg x35) H1, .r (.pointer (some ⟨x9p, x9o, some x9l⟩)) H2, .h H3, .e, .lo (.exit 1, [.slice z11a z11n z11c], H4)] (ai h1 (ai h2 (ai h3 (ai h4 (ai (decide_eq_false h5) (ai (decide_eq_false h6) (ai h7 (ai h8 (ai h9 (ai (decide_eq_false h10) (ai h11 (ai h12 (ai h13 (ai h14 (ai h15 (ai h16 h17)))))))))))))))) (by kernel_rfl) rfl
theorem f23_L0_0 {x1 : ByteArray} {x2 : Int} {x3p x3o x3l : Nat} {x10 : Value} {x11a : Option Addr} {x11n x11c : Nat} {x12 : Int} {H0 : AHeap} {prot : Nat} {H : AHeap} {x54a : Int} {x54ba : Option Addr} {x54bn x54bc : Nat} {x54ca : Option Addr} {x54cn x54cc : Nat} {x60a : Option Addr} {x60n x60c : Nat} {H2 : AHeap} (h1 : x12 ≤ 4096) (h2 : (↑x11n : Int) < x2) (h3 : (x12 == (↑x1.size : Int)) = true) (h4 : getCells H x3p x3l x3o 3 = some [Value.int .i64 x54a, Value.slice x54ba x54bn x54bc, Value.slice x54ca x54cn x54cc]) (h5 : callInf cfg 47 [Value.agg { toList := [Value.int .i64 x54a, Value.slice x54ba x54bn x54bc, Value.slice x54ca x54cn x54cc] }, x10, Value.int .i64 x12, Value.string x1, Value.int .i64 x2, Value.slice x11a x11n x11c] (List.length H0) H = some (Value.slice x60a x60n x60c, H2)) (h6 : Fit .i64 (x12 + 1)) : lpOf cfg a23 0 prot H0 ([.string x1, .int .i64 x2, .pointer (some ⟨x3p, x3o, some x3l⟩), x10, .slice x11a x11n x11c, .int .i64 x12], H) = some (Sum.inl ([Value.string x1, Value.int .i64 x2, Value.pointer (some ⟨x3p, x3o, some x3l⟩), x10, Value.slice x60a x60n x60c, Value.int .i64 (x12 + 1)], H2)) :=
  lp_of2 [.e, .b true, .b true, .e, .b true, .b true, .e, .b true, .b true, .e, .e, .b true, .v (.agg #[.int .i64 x54a, .slice x54ba x54bn x54bc, .slice x54ca x54cn x54cc]), .r (.slice x60a x60n x60c) H2, .e] (ai (decide_eq_true h1) (ai (decide_eq_true h1) (ai (decide_eq_true h1) (ai (decide_eq_true h1) (ai (decide_eq_true h1) (ai (decide_eq_true h2) (ai h3 (ai h4 (ai h5 (ai h6 (Eq.refl (Sum.inl ([Value.string x1, Value.int .i64 x2, Value.pointer (some ⟨x3p, x3o, some x3l⟩), x10, Value.slice x60a x60n x60c, Value.int .i64 (x12 + 1)], H2) : LS ⊕ LO)))))))))))) (by kernel_rfl)
theorem f23_L0_1 {x1 : ByteArray} {x2 : Int} {x3p x3o x3l : Nat} {x10 : Value} {x11a : Option Addr} {x11n x11c : Nat} {x12 : Int} {H0 : AHeap} {prot : Nat} {H : AHeap} {x54a : Int} {x54ba : Option Addr} {x54bn x54bc : Nat} {x54ca : Option Addr} {x54cn x54cc : Nat} {x60a : Option Addr} {x60n x60c : Nat} {H2 : AHeap} (h1 : x12 ≤ 4096) (h2 : (↑x11n : Int) < x2) (h3 : (x12 == (↑x1.size : Int)) = false) (h4 : getCells H x3p x3l x3o 3 = some [Value.int .i64 x54a, Value.slice x54ba x54bn x54bc, Value.slice x54ca x54cn x54cc]) (h5 : callInf cfg 47 [Value.agg { toList := [Value.int .i64 x54a, Value.slice x54ba x54bn x54bc, Value.slice x54ca x54cn x54cc] }, x10, Value.int .i64 x12, Value.string { data := { toList := [] } }, Value.int .i64 x2, Value.slice x11a x11n x11c] (List.length H0) H = some (Value.slice x60a x60n x60c, H2)) (h6 : Fit .i64 (x12 + 1)) : lpOf cfg a23 0 prot H0 ([.string x1, .int .i64 x2, .pointer (some ⟨x3p, x3o, some x3l⟩), x10, .slice x11a x11n x11c, .int .i64 x12], H) = some (Sum.inl ([Value.string x1, Value.int .i64 x2, Value.pointer (some ⟨x3p, x3o, some x3l⟩), x10, Value.slice x60a x60n x60c, Value.int .i64 (x12 + 1)], H2)) :=
  lp_of2 [.e, .b true, .b true, .e, .b true, .b true, .e, .b true, .b true, .e, .e, .b false, .v (.agg #[.int .i64 x54a, .slice x54ba x54bn x54bc, .slice x54ca x54cn x54cc]), .r (.slice x60a x60n x60c) H2, .e] (ai (decide_eq_true h1) (ai (decide_eq_true h1) (ai (decide_eq_true h1) (ai (decide_eq_true h1) (ai (decide_eq_true h1) (ai (decide_eq_true h2) (ai h3 (ai h4 (ai h5 (ai h6 (Eq.refl (Sum.inl ([Value.string x1, Value.int .i64 x2, Value.pointer (some ⟨x3p, x3o, some x3l⟩), x10, Value.slice x60a x60n x60c, Value.int .i64 (x12 + 1)], H2) : LS ⊕ LO)))))))))))) (by kernel_rfl)
theorem f23_L0_2 {x1 : ByteArray} {x2 : Int} {x3p x3o x3l : Nat} {x10 : Value} {x11a : Option Addr} {x11n x11c : Nat} {x12 : Int} {H0 : AHeap} {prot : Nat} {H : AHeap} (h1 : x12 ≤ 4096) (h2 : ¬((↑x11n : Int) < x2)) : lpOf cfg a23 0 prot H0 ([.string x1, .int .i64 x2, .pointer (some ⟨x3p, x3o, some x3l⟩), x10, .slice x11a x11n x11c, .int .i64 x12], H) = some (Sum.inr (Ex.exit 1, [Value.slice x11a x11n x11c], H)) :=
  lp_of2 [.e, .b true, .b true, .e, .b true, .b true, .e, .b true, .b false] (ai (decide_eq_true h1) (ai (decide_eq_true h1) (ai (decide_eq_true h1) (ai (decide_eq_true h1) (ai (decide_eq_true h1) (ai (decide_eq_false h2) (Eq.refl (Sum.inr (Ex.exit 1, [Value.slice x11a x11n x11c], H) : LS ⊕ LO)))))))) (by kernel_rfl)
theorem f23_L0_3 {x1 : ByteArray} {x2 : Int} {x3p x3o x3l : Nat} {x10 : Value} {x11a : Option Addr} {x11n x11c : Nat} {x12 : Int} {H0 : AHeap} {prot : Nat} {H : AHeap} (h1 : ¬(x12 ≤ 4096)) : lpOf cfg a23 0 prot H0 ([.string x1, .int .i64 x2, .pointer (some ⟨x3p, x3o, some x3l⟩), x10, .slice x11a x11n x11c, .int .i64 x12], H) = some (Sum.inr (Ex.exit 1, [Value.slice x11a x11n x11c], H)) :=
  lp_of2 [.e, .b false, .b false, .b false, .b false, .b false, .b false] (ai (decide_eq_false h1) (ai (decide_eq_false h1) (ai (decide_eq_false h1) (ai (decide_eq_false h1) (ai (decide_eq_false h1) (ai (Eq.refl false) (Eq.refl (Sum.inr (Ex.exit 1, [Value.slice x11a x11n x11c], H) : LS ⊕ LO)))))))) (by kernel_rfl)
end Go.Proofs.Ythjkodbinkiifaa.Am23
namespace Go.Proofs.Ythjkodbinkiifaa.Am23
open Go Go.Proofs.Ythjkodbinkiifaa.Am

/-- The letters of a text. -/
def letO (w : ByteArray) : List Nat := (List.range w.size).map fun j => (w.get! j).toNat - 97
theorem letO_len (w : ByteArray) : (letO w).length = w.size := by simp [letO]
theorem letO_ok {k : Nat} {w : ByteArray} (h : okW k w = true) : lw (letO w) = w ∧ ∀ c ∈ letO w, c < k := by
  unfold okW at h
  rw [okFrom_iff] at h
  refine ⟨?_, fun c hc => ?_⟩
  · apply ByteArray.ext
    apply Array.ext
    · simp [lw, bstr, letO]
    · intro i h1 h2
      have hi : i < w.size := h2
      have h3 := h i (by omega) (by omega)
      have e : w.get! i = w.data[i] := by
        show w.data[i]! = w.data[i]
        exact getElem!_pos w.data i h2
      rw [e] at h3
      simp only [lw, bstr, letO, List.getElem_toArray, List.getElem_map, List.getElem_range]
      apply UInt8.toNat_inj.1
      rw [UInt8.toNat_ofNat', e]
      have := w.data[i].toNat_lt
      omega
  · unfold letO at hc
    rw [List.mem_map] at hc
    obtain ⟨j, hj, rfl⟩ := hc
    rw [List.mem_range] at hj
    have := h j (by omega) (by omega)
    omega
/-- What Words answers. -/
def wordsV (k : Int) (xs : List Int) (bs : List Bool) (w : ByteArray) (most : Int) : List (List Nat) × Int :=
  if chkG k xs bs ≠ 0 then ([], chkG k xs bs) else if most < 0 then ([], 1) else if most > 1000 then ([], 6) else if chkW k w ≠ 0 then ([], 21) else
  if (w.size : Int) > 4096 then ([], 0) else (wordsL k.toNat (tgt k.toNat xs) (accB bs) (letO w) most.toNat, 0)

theorem fr_stay {o : Option Nat} {H H' : AHeap} (h : Fr H.length o H H') : Stay o H H' := ⟨h.2, fun q hq hne => h.1 q hq hne⟩

theorem loop23 {k p most : Nat} {xs : List Int} {bs : List Bool} (hG : Good k xs bs) {low : List Nat} (hlk : ∀ c ∈ low, c < k) (hm : most ≤ 1000) {L : List Value} (hL : L.length = 4097) {H0 : AHeap} {prot : Nat} {vN vA : Value} (hpb : H0.length < p) (hlN : Low H0.length vN) (hlA : Low H0.length vA) : ∀ (d n : Nat) (out : List (List Nat)) (x5 : Value) (o5 : Option Nat) (H : AHeap), n + d = 4097 → out.length ≤ most →
    H[H0.length]? = some (bx k vN vA) → IsA H xs bs vN vA → H[p]? = some (.cells L 72 4097 .var) → (∀ m, m ≤ 4096 → ∃ v, L[m]? = some v ∧ Rd H 4 1 v bs.length (bll (canL k xs bs m)) ∧ Low p v) → Own H 9 1 x5 o5 out.length (sl out) → (∀ id, o5 = some id → p < id) →
    ∃ X oX H', lpInf (lpOf cfg a23 0 prot H0) ([.string (lw low), .int .i64 most, .pointer (some ⟨H0.length, 0, some 3⟩), fcan p, x5, .int .i64 n], H) = some (.exit 1, [X], H') ∧ Own H' 9 1 X oX (runW k (tgt k xs) (accB bs) low most d n out).length (sl (runW k (tgt k xs) (accB bs) low most d n out)) ∧ (∀ id, oX = some id → p < id) ∧ (∀ q, q ≤ p → H'[q]? = H[q]?) ∧ H.length ≤ H'.length
  | 0, n, out, x5, o5, H, hn, ho, hb, hA, hp, hr, hout, h5 => by
    obtain ⟨a5, c5, rfl⟩ := hout.len
    exact ⟨_, o5, H, lp_last (f23_L0_3 (by omega)), hout, h5, fun _ _ => rfl, Nat.le_refl _⟩
  | d + 1, n, out, x5, o5, H, hn, ho, hb, hA, hp, hr, hout, h5 => by
    rw [runW]
    by_cases hlt : out.length < most
    · rw [if_pos hlt]
      have lb := (List.getElem?_eq_some_iff.1 hb).1
      have lp := (List.getElem?_eq_some_iff.1 hp).1
      have hk1 := hG.k1
      have saf : ∀ v b, Low b v → b ≤ p → Safe o5 H.length v := fun v b hl hb' id off L n c e => ⟨by have := hl id off L n c e; omega, fun e2 => by have := hl id off L n c e; have := h5 id e2; omega⟩
      have key : ∀ low' : List Nat, (∀ c ∈ low', c < k) → (low' ≠ [] → low'.length = n) → (if low' = [] then none else some low') = lowO low n →
          ∃ X oX H', callInf cfg 47 [av k vN vA, fcan p, .int .i64 n, .string (lw low'), .int .i64 most, x5] H0.length H = some (X, H') ∧ Own H' 9 1 X oX ((out ++ allW k (tgt k xs) (accB bs) n 0 (lowO low n)).take most).length (sl ((out ++ allW k (tgt k xs) (accB bs) n 0 (lowO low n)).take most)) ∧ Rel H.length o5 oX ∧ Fr H.length o5 H H' := fun low' h1 h2 h3 => by
        rw [← h3]
        refine c47 hG (fun i => ?_) h2 (by omega) hm hL (by omega) hlt hA (saf _ _ hlN (by omega)) (saf _ _ hlA (by omega)) hp (fun e => by have := h5 _ e; omega) (fun m hm => ?_) hout (fun id e => by have := h5 _ e; omega)
        · rw [List.getD_eq_getElem?_getD]
          cases hi : low'[i]? with
          | none => simp; omega
          | some c => simp; exact h1 c (List.mem_of_getElem? hi)
        · obtain ⟨v, q1, q2, q3⟩ := hr m hm
          exact ⟨v, q1, q2, saf _ _ q3 (Nat.le_refl _)⟩
      have fin : ∀ (X : Value) (oX : Option Nat) (H2 : AHeap), Own H2 9 1 X oX ((out ++ allW k (tgt k xs) (accB bs) n 0 (lowO low n)).take most).length (sl ((out ++ allW k (tgt k xs) (accB bs) n 0 (lowO low n)).take most)) → Rel H.length o5 oX → Fr H.length o5 H H2 →
          lpOf cfg a23 0 prot H0 ([.string (lw low), .int .i64 most, .pointer (some ⟨H0.length, 0, some 3⟩), fcan p, x5, .int .i64 n], H) = some (.inl ([.string (lw low), .int .i64 most, .pointer (some ⟨H0.length, 0, some 3⟩), fcan p, X, .int .i64 ((n : Int) + 1)], H2)) →
          ∃ X oX H', lpInf (lpOf cfg a23 0 prot H0) ([.string (lw low), .int .i64 most, .pointer (some ⟨H0.length, 0, some 3⟩), fcan p, x5, .int .i64 n], H) = some (.exit 1, [X], H') ∧ Own H' 9 1 X oX (runW k (tgt k xs) (accB bs) low most d (n + 1) ((out ++ allW k (tgt k xs) (accB bs) n 0 (lowO low n)).take most)).length (sl (runW k (tgt k xs) (accB bs) low most d (n + 1) ((out ++ allW k (tgt k xs) (accB bs) n 0 (lowO low n)).take most))) ∧ (∀ id, oX = some id → p < id) ∧ (∀ q, q ≤ p → H'[q]? = H[q]?) ∧ H.length ≤ H'.length := fun X oX H2 q1 q2 q3 q4 => by
        have st := fr_stay q3
        have hsame : ∀ q, q ≤ p → H2[q]? = H[q]? := fun q hq => st.2 q (by omega) (fun e => by have := h5 q e; omega)
        have hrd : ∀ (v : Value) (e n : Nat) (cs : List Value), Low p v → Rd H e 1 v n cs → Rd H2 e 1 v n cs := fun v e n cs hl hv => hv.stayNe st (fun id off L n c e1 e2 => by have := hl id off L n c e1; have := h5 id e2; omega)
        obtain ⟨X', oX', H', u1, u2, u3, u4, u5⟩ := loop23 hG hlk hm hL (prot := prot) hpb hlN hlA d (n + 1) _ X oX H2 (by omega) (by rw [List.length_take]; omega) (by rw [hsame _ (by omega)]; exact hb) ⟨hrd _ _ _ _ (hlN.mono (by omega)) hA.n, hrd _ _ _ _ (hlA.mono (by omega)) hA.a⟩ (by rw [hsame _ (Nat.le_refl _)]; exact hp)
          (fun m hm => by obtain ⟨v, g1, g2, g3⟩ := hr m hm; exact ⟨v, g1, hrd _ _ _ _ g3 g2, g3⟩) q1 (fun id e => by
            cases ho5 : o5 with
            | none => have := q2.2 ho5 id e; omega
            | some i => rw [q2.1 i ho5] at e; have := Option.some.inj e; have := h5 i ho5; omega)
        exact ⟨X', oX', H', lp_next q4 u1, u2, u3, fun q hq => by rw [u4 q hq, hsame q hq], by have := q3.2; omega⟩
      obtain ⟨_, _, _, g3⟩ := fld3 hb
      have hN := hA.n.len
      have hA' := hA.a.len
      have h5l := hout.len
      by_cases he : n = low.length
      · have hlo : (if low = [] then none else some low) = lowO low n := by
          unfold lowO
          by_cases h0 : low = []
          · rw [if_pos h0, if_neg (by simp [h0])]
          · rw [if_neg h0, if_pos ⟨he, h0⟩]
        obtain ⟨X, oX, H2, q1, q2, q3, q4⟩ := key low hlk (fun _ => he.symm) hlo
        refine fin X oX H2 q2 q3 q4 ?_
        obtain ⟨aN, cN, rfl⟩ := hN
        obtain ⟨aA, cA, rfl⟩ := hA'
        obtain ⟨a5, c5, rfl⟩ := h5l
        obtain ⟨aX, cX, rfl⟩ := q2.len
        exact f23_L0_0 (by omega) (by omega) (by rw [lw_size, he]; simp) g3 q1 (fit64 (by omega) (by omega))
      · have hlo : (if ([] : List Nat) = [] then none else some []) = lowO low n := by
          unfold lowO
          rw [if_pos rfl, if_neg (fun h => he h.1)]
        obtain ⟨X, oX, H2, q1, q2, q3, q4⟩ := key [] (by simp) (fun h => absurd rfl h) hlo
        refine fin X oX H2 q2 q3 q4 ?_
        obtain ⟨aN, cN, rfl⟩ := hN
        obtain ⟨aA, cA, rfl⟩ := hA'
        obtain ⟨a5, c5, rfl⟩ := h5l
        obtain ⟨aX, cX, rfl⟩ := q2.len
        exact f23_L0_1 (by omega) (by omega) (by rw [lw_size, beq_eq_false_iff_ne]; omega) g3 q1 (fit64 (by omega) (by omega))
    · rw [if_neg hlt]
      obtain ⟨a5, c5, rfl⟩ := hout.len
      exact ⟨_, o5, H, lp_last (f23_L0_2 (by omega) (by omega)), hout, h5, fun _ _ => rfl, Nat.le_refl _⟩

theorem c23 {k : Int} {xs : List Int} {bs : List Bool} {vN vA : Value} (w : ByteArray) (most : Int) (prot : Nat) (H : AHeap) (hA : IsA H xs bs vN vA) :
    ∃ X oX H', callInf cfg 23 [av k vN vA, .string w, .int .i64 most] prot H = some (.tuple #[X, .int .i64 (wordsV k xs bs w most).2], H') ∧ Own H' 9 1 X oX (wordsV k xs bs w most).1.length (sl (wordsV k xs bs w most).1) ∧ Stay none H H' ∧ (∀ id, oX = some id → H.length ≤ id) := by
  have lN := hA.n.low
  have lA := hA.a.low
  obtain ⟨aN, cN, rfl⟩ := hA.n.len
  obtain ⟨aA, cA, rfl⟩ := hA.a.len
  obtain ⟨HX, hHX⟩ : ∃ HX, HX = H ++ [bx k (.slice aN xs.length cN) (.slice aA bs.length cA)] := ⟨_, rfl⟩
  have lX : HX.length = H.length + 1 := by rw [hHX]; simp
  have sX : Stay none H HX := by rw [hHX]; exact Stay.app none H _
  have hgX : HX[H.length]? = some (bx k (.slice aN xs.length cN) (.slice aA bs.length cA)) := by rw [hHX]; exact append_get.1
  obtain ⟨g0, _, _, g3⟩ := fld3 hgX
  have hAX := hA.stay sX
  have h36 := c36 (k := k) H.length HX hAX
  have h44 := c44 k w H.length HX
  have nil : ∀ e : Int, callInf cfg 23 [av k (.slice aN xs.length cN) (.slice aA bs.length cA), .string w, .int .i64 most] prot H = some (.tuple #[.slice none 0 0, .int .i64 e], H) → wordsV k xs bs w most = ([], e) →
      ∃ X oX H', callInf cfg 23 [av k (.slice aN xs.length cN) (.slice aA bs.length cA), .string w, .int .i64 most] prot H = some (.tuple #[X, .int .i64 (wordsV k xs bs w most).2], H') ∧ Own H' 9 1 X oX (wordsV k xs bs w most).1.length (sl (wordsV k xs bs w most).1) ∧ Stay none H H' ∧ (∀ id, oX = some id → H.length ≤ id) := fun e h1 h2 => by
    rw [h2]
    exact ⟨_, none, H, h1, own_nil, Stay.refl _ _, fun id h => by cases h⟩
  by_cases c1 : chkG k xs bs = 0
  · have e1 : (chkG k xs bs != 0) = false := by simp [c1]
    by_cases c2 : most < 0
    · exact nil 1 (by subst hHX; exact f23_F_1 all3 g3 h36 e1 c2) (by unfold wordsV; rw [if_neg (by simp [c1]), if_pos c2])
    by_cases c3 : most > 1000
    · exact nil 6 (by subst hHX; exact f23_F_2 all3 g3 h36 e1 c2 c3) (by unfold wordsV; rw [if_neg (by simp [c1]), if_neg c2, if_pos c3])
    by_cases c4 : chkW k w = 0
    · have e4 : (chkW k w != 0) = false := by simp [c4]
      by_cases c5 : (w.size : Int) > 4096
      · exact nil 0 (by subst hHX; exact f23_F_4 all3 g3 h36 e1 c2 c3 g0 h44 e4 c5) (by unfold wordsV; rw [if_neg (by simp [c1]), if_neg c2, if_neg c3, if_neg (by simp [c4]), if_pos c5])
      have hV : wordsV k xs bs w most = (wordsL k.toNat (tgt k.toNat xs) (accB bs) (letO w) most.toNat, 0) := by unfold wordsV; rw [if_neg (by simp [c1]), if_neg c2, if_neg c3, if_neg (by simp [c4]), if_neg c5]
      obtain ⟨k, rfl, hG⟩ := good_of c1
      obtain ⟨most, rfl⟩ : ∃ m : Nat, most = m := ⟨most.toNat, by omega⟩
      simp only [Int.toNat_natCast] at hV
      have hok : okW k w = true := by
        unfold chkW at c4
        rw [if_neg (by have := hG.k1; have := hG.k8; omega), Int.toNat_natCast] at c4
        split at c4
        · assumption
        · cases c4
      obtain ⟨hlw, hlk⟩ := letO_ok hok
      obtain ⟨L, H1, r1, r2, r3, r4, r5⟩ := c45 hG H.length HX hAX
      obtain ⟨H2, hH2⟩ : ∃ H2, H2 = H1 ++ [AObj.cells (List.replicate 4097 (.slice none 0 0)) 72 4097 .var] := ⟨_, rfl⟩
      have a1 : aalloc cfg.P 72 H1 = some (.pointer (some ⟨H1.length, 0, some 4097⟩), H2) := by rw [hH2]; exact alloc_arr z72 rfl H1
      have s2 : Stay none H1 H2 := by rw [hH2]; exact Stay.app none H1 _
      have gp : H2[H1.length]? = some (.cells (List.replicate 4097 (.slice none 0 0)) 72 4097 .var) := by rw [hH2]; exact append_get.1
      have l5 := r5.1
      obtain ⟨H3, hH3⟩ : ∃ H3, H3 = H2.set H1.length (.cells L 72 4097 .var) := ⟨_, rfl⟩
      have l2 : H2.length = H1.length + 1 := by rw [hH2, List.length_append, List.length_singleton]
      have s3 : Stay (some H1.length) H2 H3 := by rw [hH3]; exact set_stay
      have hput : setCells H2 H.length H1.length 4097 0 L = some H3 := by rw [hH3]; exact arr_put gp List.length_replicate (by omega) r2 r3
      have gp3 : H3[H1.length]? = some (.cells L 72 4097 .var) := by rw [hH3, List.getElem?_set_self (by omega)]
      have hfr : ∀ (v : Value) (e n : Nat) (cs : List Value), Rd H1 e 1 v n cs → Rd H3 e 1 v n cs := fun v e n cs hv => (hv.stay s2).stayLow hv.low s3 (fun id h => by have := Option.some.inj h; omega)
      have hA1 := hAX.stay r5
      obtain ⟨X, oX, H', u1, u2, u3, u4, u5⟩ := loop23 hG hlk (show most ≤ 1000 by omega) r2 (prot := prot) (H0 := H) (p := H1.length) (by omega) lN lA (4097 - (letO w).length) (letO w).length [] (.slice none 0 0) none H3 (by rw [letO_len]; omega) (Nat.zero_le _)
        (by rw [s3.2 _ (by omega) (fun h => by have := Option.some.inj h; omega), s2.2 _ (by omega) (by simp), r5.2 _ (by omega) (by simp)]; exact hgX) ⟨hfr _ _ _ _ hA1.n, hfr _ _ _ _ hA1.a⟩ gp3 (fun m hm => by obtain ⟨v, g1, g2⟩ := r4 m hm; exact ⟨v, g1, hfr _ _ _ _ g2, g2.low⟩) own_nil (fun id h => by cases h)
      rw [runW_eq _ _ _ _ _ _ _ _ (Nat.zero_le _), List.nil_append] at u2
      obtain ⟨x', o', H4, v1, v2, v3, v4, v5⟩ := gc_row (H := H) (ps := [.int .i64 0]) u2 (fun id h => by have := u3 id h; omega) (sl_cell _) rfl
      rw [hV]
      obtain ⟨aX, cX, rfl⟩ := u2.len
      refine ⟨x', o', H4, ?_, v2, v3, v4⟩
      rw [hlw, letO_len] at u1
      rw [letO_len] at v1
      subst hHX
      exact f23_F_5 (x35 := L.toArray) _ _ all3 g3 h36 e1 c2 c3 g0 h44 e4 c5 g3 r1 a1 (by simpa using r2) hput u1 (by rw [pfin_eq, if_neg (by simp [a23])]; exact v1)
    · exact nil 21 (by subst hHX; exact f23_F_3 all3 g3 h36 e1 c2 c3 g0 h44 (by simpa using c4)) (by unfold wordsV; rw [if_neg (by simp [c1]), if_neg c2, if_neg c3, if_pos c4])
  · exact nil (chkG k xs bs) (by subst hHX; exact f23_F_0 all3 g3 h36 (by simpa using c1)) (by unfold wordsV; rw [if_pos c1])
end Go.Proofs.Ythjkodbinkiifaa.Am23
set_option linter.unusedVariables false
open Go Go.Proofs.Ythjkodbinkiifaa.Am
namespace Go.Proofs.Ythjkodbinkiifaa.Am23
end Go.Proofs.Ythjkodbinkiifaa.Am23
namespace Go.Proofs.Ythjkodbinkiifaa.Am23
open Go Go.Proofs.Ythjkodbinkiifaa.Am

theorem u8_sub {b : Nat} (h1 : 97 ≤ b) (h2 : b < 256) : IntKind.u8.wrap ((b : Int) - 97) = ((b - 97 : Nat) : Int) := by
  rw [show (b : Int) - 97 = ((b - 97 : Nat) : Int) by omega]
  exact u8_small (by omega)
end Go.Proofs.Ythjkodbinkiifaa.Am23
set_option linter.unusedVariables false
open Go Go.Proofs.Ythjkodbinkiifaa.Am
namespace Go.Proofs.Ythjkodbinkiifaa.Am23
end Go.Proofs.Ythjkodbinkiifaa.Am23
namespace Go.Proofs.Ythjkodbinkiifaa.Am23
open Go Go.Proofs.Ythjkodbinkiifaa.Am

theorem pigeon : ∀ (n : Nat) (f : Nat → Nat), (∀ i, i ≤ n → f i < n) → ∃ i j, i < j ∧ j ≤ n ∧ f i = f j
  | 0, f, h => by have := h 0 (Nat.le_refl _); omega
  | n + 1, f, h => by
    by_cases hh : ∃ i, i ≤ n ∧ f i = f (n + 1)
    · obtain ⟨i, h1, h2⟩ := hh
      exact ⟨i, n + 1, by omega, by omega, h2⟩
    · have hne : ∀ i, i ≤ n → f i ≠ f (n + 1) := fun i hi he => hh ⟨i, hi, he⟩
      have hv := h (n + 1) (Nat.le_refl _)
      obtain ⟨i, j, h1, h2, h3⟩ := pigeon n (fun i => if f i = n then f (n + 1) else f i) (fun i hi => by
        have h1 := h i (by omega)
        have h2 := hne i hi
        split <;> omega)
      refine ⟨i, j, h1, by omega, ?_⟩
      have hi := hne i (by omega)
      have hj := hne j h2
      split at h3 <;> split at h3 <;> omega

/-- A long way goes round. -/
theorem round {k : Nat} {xs : List Int} {bs : List Bool} (hG : Good k xs bs) {w : List Nat} (hw : Wk k w) : ∃ i j, i < j ∧ j ≤ bs.length ∧ go k xs 0 (w.take i) = go k xs 0 (w.take j) := by
  have hb1 := hG.n1
  exact pigeon bs.length (fun i => go k xs 0 (w.take i)) (fun i _ => go_lt hG _ _ (fun c hc => hw c (List.mem_of_mem_take hc)) (by omega))
def pw (v : List Nat) : Nat → List Nat
  | 0 => []
  | n + 1 => v ++ pw v n
def fnd (k : Nat) (xs : List Int) (bs : List Bool) : Nat → Nat → Bool
  | 0, _ => false
  | d + 1, i => decide (0 < (rowC k xs bs i).getD 0 0) || fnd k xs bs d (i + 1)
end Go.Proofs.Ythjkodbinkiifaa.Am23
namespace Go.Proofs.Ythjkodbinkiifaa.Am23
open Go Go.Proofs.Ythjkodbinkiifaa.Am
theorem sumW_snoc (f : Nat → Nat) : ∀ d c, sumW f (d + 1) c = sumW f d c + f (c + d)
  | 0, c => by simp [sumW]
  | d + 1, c => by
    rw [sumW, sumW_snoc f d (c + 1), sumW]
    have : c + 1 + d = c + (d + 1) := by omega
    rw [this]; omega
theorem sumW_congr {f g : Nat → Nat} : ∀ d c, (∀ i, c ≤ i → i < c + d → f i = g i) → sumW f d c = sumW g d c
  | 0, _, _ => rfl
  | d + 1, c, h => by rw [sumW, sumW, h c (by omega) (by omega), sumW_congr d (c + 1) (fun i h1 h2 => h i (by omega) (by omega))]
theorem pass_cnt {k : Nat} {xs : List Int} {bs : List Bool} (hG : Good k xs bs) {C : List Nat} {s : Nat} (hs : s < bs.length) : ∀ (d i : Nat) (D : List Nat), i + d = xs.length → D.length = bs.length →
    (pass k xs C d i D).getD s 0 + sumW (fun c => C.getD (tgt k xs s c) 0) (min k (i - s * k)) 0 = D.getD s 0 + sumW (fun c => C.getD (tgt k xs s c) 0) k 0
  | 0, i, D, hi, hD => by
    have hxl := hG.nx
    have : (s + 1) * k ≤ bs.length * k := Nat.mul_le_mul (by omega) (Nat.le_refl k)
    rw [Nat.add_mul, Nat.one_mul] at this
    simp only [pass]
    rw [Nat.min_eq_left (by omega)]
  | d + 1, i, D, hi, hD => by
    have hk := hG.k1
    have hxl := hG.nx
    have hsi : i / k < bs.length := Nat.div_lt_of_lt_mul (by rw [Nat.mul_comm]; omega)
    have ih := pass_cnt hG (C := C) hs d (i + 1) (D.set (i / k) (D.getD (i / k) 0 + C.getD (xs.getD i 0).toNat 0)) (by omega) (by simp [hD])
    rw [getD_set (by omega)] at ih
    simp only [pass]
    have hdm := Nat.div_add_mod i k
    have hml := Nat.mod_lt i (show 0 < k by omega)
    by_cases he : s = i / k
    · subst he
      rw [if_pos rfl] at ih
      have e0 : i / k * k + i % k = i := by rw [Nat.mul_comm]; omega
      have e1 : min k (i + 1 - i / k * k) = i % k + 1 := by omega
      have e2 : min k (i - i / k * k) = i % k := by omega
      rw [e1, sumW_snoc] at ih
      rw [e2]
      have e3 : tgt k xs (i / k) (0 + i % k) = (xs.getD i 0).toNat := by unfold tgt; rw [Nat.zero_add, e0]
      simp only [e3] at ih
      omega
    · rw [if_neg he] at ih
      have : min k (i + 1 - s * k) = min k (i - s * k) := by
        rcases Nat.lt_or_ge s (i / k) with h | h
        · have : (s + 1) * k ≤ i / k * k := Nat.mul_le_mul h (Nat.le_refl k)
          rw [Nat.add_mul, Nat.one_mul] at this
          rw [Nat.mul_comm (i / k) k] at this
          omega
        · have : (i / k + 1) * k ≤ s * k := Nat.mul_le_mul (by omega) (Nat.le_refl k)
          rw [Nat.add_mul, Nat.one_mul, Nat.mul_comm (i / k) k] at this
          omega
      rw [this] at ih
      exact ih
/-- Words are as many as are counted. -/
theorem row_cnt {k : Nat} {xs : List Int} {bs : List Bool} (hG : Good k xs bs) : ∀ (m s : Nat), s < bs.length → (allW k (tgt k xs) (fun t => bs.getD t false) m s none).length = (rowC k xs bs m).getD s 0
  | 0, s, hs => by
    rw [allW, rowC]
    have e1 : bs.getD s false = bs[s] := by rw [List.getD_eq_getElem?_getD, List.getElem?_eq_getElem hs]; rfl
    have e2 : (bs.map b2n).getD s 0 = b2n bs[s] := by rw [List.getD_eq_getElem?_getD, List.getElem?_map, List.getElem?_eq_getElem hs]; rfl
    rw [e1, e2]
    cases h : bs[s] <;> rfl
  | m + 1, s, hs => by
    rw [allW_length]
    have h := pass_cnt hG (C := rowC k xs bs m) hs xs.length 0 (List.replicate bs.length 0) (by omega) (by simp)
    rw [show min k (0 - s * k) = 0 by omega] at h
    have hz : (List.replicate bs.length 0).getD s 0 = 0 := by simp [List.getD_eq_getElem?_getD, List.getElem?_replicate, hs]
    rw [hz] at h
    have e : (rowC k xs bs (m + 1)) = pass k xs (rowC k xs bs m) xs.length 0 (List.replicate bs.length 0) := rfl
    rw [e]
    simp only [sumW, Nat.add_zero, Nat.zero_add] at h
    rw [h]
    exact sumW_congr _ _ fun c _ hc => row_cnt hG m _ (tgt_lt hG hs (show c < k by omega)).2.1
/-- Where a word leads. -/
theorem foldl_go (k : Nat) (xs : List Int) : ∀ (w : List Nat) (s : Nat), w.foldl (tgt k xs) s = go k xs s w
  | [], s => rfl
  | c :: w, s => by rw [List.foldl_cons, foldl_go k xs w]; rfl
end Go.Proofs.Ythjkodbinkiifaa.Am23
set_option linter.unusedVariables false
open Go Go.Proofs.Ythjkodbinkiifaa.Am
namespace Go.Proofs.Ythjkodbinkiifaa.Am23
theorem f28_F_0 {x0 x1 : ByteArray} {H : AHeap} {prot : Nat} (h1 : ((↑x0.size : Int) != (↑x1.size : Int)) = true) (h2 : (↑x0.size : Int) < (↑x1.size : Int)) : callInf cfg 28 [.string x0, .string x1] prot H = some (Value.int .i64 (-1), H) :=
  fn_of2 a28 [.e, .e, .e, .b true, .e, .e, .e, .b true] (ai h1 (ai (decide_eq_true h2) (Eq.refl ((Value.int .i64 (-1), H) : Value × AHeap)))) (by kernel_rfl) rfl
theorem f28_F_1 {x0 x1 : ByteArray} {H : AHeap} {prot : Nat} (h1 : ((↑x0.size : Int) != (↑x1.size : Int)) = true) (h2 : ¬((↑x0.size : Int) < (↑x1.size : Int))) : callInf cfg 28 [.string x0, .string x1] prot H = some (Value.int .i64 1, H) :=
  fn_of2 a28 [.e, .e, .e, .b true, .e, .e, .e, .b false] (ai h1 (ai (decide_eq_false h2) (Eq.refl ((Value.int .i64 1, H) : Value × AHeap)))) (by kernel_rfl) rfl
theorem f28_F_2 {x0 x1 : ByteArray} {H : AHeap} {prot : Nat} {x17 : Int} (h1 : ((↑x0.size : Int) != (↑x1.size : Int)) = false) (h2 : callInf cfg 52 [Value.string x0, Value.string x1] (List.length H) H = some (Value.int .i64 x17, H)) : callInf cfg 28 [.string x0, .string x1] prot H = some (Value.int .i64 x17, H) :=
  fn_of2 a28 [.e, .e, .e, .b false, .v (.int .i64 x17)] (ai h1 (ai h2 (Eq.refl ((Value.int .i64 x17, H) : Value × AHeap)))) (by kernel_rfl) rfl
end Go.Proofs.Ythjkodbinkiifaa.Am23
set_option linter.unusedVariables false
open Go Go.Proofs.Ythjkodbinkiifaa.Am
namespace Go.Proofs.Ythjkodbinkiifaa.Am23
theorem f52_F_0 {x0 x1 : ByteArray} {H : AHeap} {prot : Nat} {x7 : Int} (h1 : callInf cfg 70 [Value.string x0, Value.string x1] (List.length H) H = some (Value.int .i64 x7, H)) : callInf cfg 52 [.string x0, .string x1] prot H = some (Value.int .i64 x7, H) :=
  fn_of2 a52 [.v (.int .i64 x7)] (ai h1 (Eq.refl ((Value.int .i64 x7, H) : Value × AHeap))) (by kernel_rfl) rfl
end Go.Proofs.Ythjkodbinkiifaa.Am23
set_option linter.unusedVariables false
open Go Go.Proofs.Ythjkodbinkiifaa.Am
namespace Go.Proofs.Ythjkodbinkiifaa.Am23
theorem f70_F_0 {x0 x1 : ByteArray} {H : AHeap} {prot : Nat} {x7 : Int} (h1 : acall { P := cfg.P, ext := cfg.ext, cl := callInf cfg, lp := lpInf, nt := a70.nt, prot := List.length H, mt := mtOf cfg, room := true } (Value.func (Fn.func 78) { toList := [] } { toList := [] }) [Value.string x0, Value.string x1] H = some (Value.int .i64 x7, H)) : callInf cfg 70 [.string x0, .string x1] prot H = some (Value.int .i64 x7, H) :=
  fn_of2 a70 [.v (.int .i64 x7)] (ai h1 (Eq.refl ((Value.int .i64 x7, H) : Value × AHeap))) (by kernel_rfl) rfl
end Go.Proofs.Ythjkodbinkiifaa.Am23
