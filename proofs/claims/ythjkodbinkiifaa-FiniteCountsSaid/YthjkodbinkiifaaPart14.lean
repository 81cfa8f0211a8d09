/- A part of the proof of a given statement: Sp23_Ord, P23_67, P23_59, Sp23_C67, P23_34, Sp23_C34, P23g_77, S23g_K, P23g_75, S23g_L, S23g_M, AmKey, S23g_N, P23g_61, P23g_60, S23g_S, P23g_62, S23g_T, Sp23_C34b, Sp23_C34c, P23_32, Sp23_C32. No condition. -/
import Derived.Test.YthjkodbinkiifaaPart13
import Derived.Lib.Bytealg
import Derived.Laws.Strings
namespace Go.Proofs.Ythjkodbinkiifaa.Am23
open Go Go.Proofs.Ythjkodbinkiifaa.Am

theorem less_cmp : ∀ l m : List UInt8, Op.bytesLess l m = true ↔ Lib.compareBytes l m < 0
 | [], [] => by simp [Op.bytesLess, Lib.compareBytes]
 | [], _ :: _ => by simp [Op.bytesLess, Lib.compareBytes]
 | _ :: _, [] => by simp [Op.bytesLess, Lib.compareBytes]
 | b :: l, d :: m => by
  have ih := less_cmp l m
  rw [Op.bytesLess, Lib.compareBytes, Bool.or_eq_true, Bool.and_eq_true, decide_eq_true_eq, beq_iff_eq]
  by_cases h1 : b < d
  ·rw [if_pos h1]; simp [h1]
  ·rw [if_neg h1]
   by_cases h2 : d < b
   ·rw [if_pos h2]
    have : ¬ b = d := fun e => by subst e; exact absurd h2 h1
    simp [h1, this]
   ·rw [if_neg h2]
    have e : b = d := by
     apply UInt8.toNat_inj.1
     have h5 : ¬ b.toNat < d.toNat := h1
     have h6 : ¬ d.toNat < b.toNat := h2
     omega
    subst e
    rw [← ih]
    simp [h1]
def ordV (u v : ByteArray) : Int := if u.size = v.size then Extern.BytealgCompare.cmp u v else if u.size < v.size then -1 else 1
theorem ord_slt (u v : ByteArray) : ordV u v < 0 ↔ slt u v = true := by
 unfold ordV slt
 by_cases h : u.size = v.size
 ·rw [if_pos h, decide_eq_false (by omega), Bool.false_or, decide_eq_true h, Bool.true_and, Lib.cmp_eq, ByteArray.toList_eq, ByteArray.toList_eq, less_cmp]
 ·rw [if_neg h, decide_eq_false h, Bool.false_and, Bool.or_false, decide_eq_true_eq]
  by_cases h2 : u.size < v.size
  ·rw [if_pos h2]; simp [h2]
  ·rw [if_neg h2]; simp [h2]
theorem c70 (u v : ByteArray) (prot : Nat) (H : AHeap) : callInf cfg 70 [.string u, .string v] prot H = some (.int .i64 (Extern.BytealgCompare.cmp u v), H) := f70_F_0 rfl
theorem c28 (u v : ByteArray) (prot : Nat) (H : AHeap) : callInf cfg 28 [.string u, .string v] prot H = some (.int .i64 (ordV u v), H) := by
 unfold ordV
 by_cases h : u.size = v.size
 ·rw [if_pos h]
  exact f28_F_2 (by rw [h]; simp) (f52_F_0 (c70 u v _ _))
 ·rw [if_neg h]
  have hne : ((u.size : Int) != (v.size : Int)) = true := by simpa using (fun e : (u.size : Int) = v.size => h (by omega))
  by_cases h2 : u.size < v.size
  ·rw [if_pos h2]
   exact f28_F_0 hne (by omega)
  ·rw [if_neg h2]
   exact f28_F_1 hne (by omega)
end Go.Proofs.Ythjkodbinkiifaa.Am23
set_option linter.unusedVariables false
open Go Go.Proofs.Ythjkodbinkiifaa.Am
namespace Go.Proofs.Ythjkodbinkiifaa.Am23
section
variable {x0a x1 x12a x10 x43 : Int}
variable {x0ba x0ca x12ba x12ca x14aa x14ba x6a x7a x29a : Option Addr}
variable {x0bn x0bc x0cn x0cc prot x12bn x12bc x12cn x12cc x14an x14ac x14bn x14bc x2p x2o x2l x6n x6c x7n x7c x25p x25o x25l x29n x29c x31p x31o x31l x40p x40o x40l x49p x49o x49l : Nat}
variable {H H1 H2 H0 : AHeap}
variable {z8 x8 x41 x50 : ByteArray}
variable {z9 x9 x26 x32 : Bool}
theorem f67_F_0 (h1 : [vI x0a, vS x0ba x0bn x0bc, vS x0ca x0cn x0cc].all isCell = true) (h2 : getCells (H ++ [vo [vI x0a, vS x0ba x0bn x0bc, vS x0ca x0cn x0cc] 25]) H.length 3 0 3 = some [vI x12a, vS x12ba x12bn x12bc, vS x12ca x12cn x12cc]) (h3 : cI 66 [Value.agg #[vI x12a, vS x12ba x12bn x12bc, vS x12ca x12cn x12cc], vI x1, Value.bool false] H.length (H ++ [vo [vI x0a, vS x0ba x0bn x0bc, vS x0ca x0cn x0cc] 25]) = some (Value.tuple #[vS x14aa x14an x14ac, vS x14ba x14bn x14bc], H1)) (h4 : lI a67 0 prot H ([vP H.length 0 3, vS x14aa x14an x14ac, vS x14ba x14bn x14bc, vE, Value.bool false, vI 0], H1) = some (Ex.exit 0, [Value.string z8, Value.bool z9], H2)) : callInf cfg 67 [.agg #[.int .i64 x0a, .slice x0ba x0bn x0bc, .slice x0ca x0cn x0cc], .int .i64 x1] prot H = some (Value.tuple { toList := [Value.string z8, Value.bool z9] }, H) :=
 fn_of2 a67 [.e, .v (.agg #[vI x12a, vS x12ba x12bn x12bc, vS x12ca x12cn x12cc]), .r (.tuple #[vS x14aa x14an x14ac, vS x14ba x14bn x14bc]) H1, .lo (.exit 0, [.string z8, .bool z9], H2)] (ai h1 (ai h2 (ai h3 (ai h4 (Eq.refl ((Value.tuple #[Value.string z8, Value.bool z9], H) : Value × AHeap)))))) (by kernel_rfl) rfl
theorem f67_L0_0 (h1 : x10 < (↑x7n : Int)) (h2 : aX 23 (vS x7a x7n x7c) (vI x10) = some (vP x25p x25o x25l)) (h3 : getCells H x25p x25l x25o 1 = some [Value.bool x26]) (h4 : x26 = true) (h5 : getCells H x2p x2l (x2o + 2) 1 = some [vS x29a x29n x29c]) (h6 : aX 23 (vS x29a x29n x29c) (vI x10) = some (vP x31p x31o x31l)) (h7 : getCells H x31p x31l x31o 1 = some [Value.bool x32]) (h8 : x32 = true) (h9 : (!x9) = false) (h10 : aX 43 (vS x6a x6n x6c) (vI x10) = some (vP x40p x40o x40l)) (h11 : getCells H x40p x40l x40o 1 = some [Value.string x41]) (h12 : cI 28 [Value.string x41, Value.string x8] H0.length H = some (vI x43, H)) (h13 : x43 < 0) (h14 : aX 43 (vS x6a x6n x6c) (vI x10) = some (vP x49p x49o x49l)) (h15 : getCells H x49p x49l x49o 1 = some [Value.string x50]) (h16 : Fit .i64 (x10 + 1)) : lpOf cfg a67 0 prot H0 ([.pointer (some ⟨x2p, x2o, some x2l⟩), .slice x6a x6n x6c, .slice x7a x7n x7c, .string x8, .bool x9, .int .i64 x10], H) = some (Sum.inl ([Value.pointer (some ⟨x2p, x2o, some x2l⟩), Value.slice x6a x6n x6c, Value.slice x7a x7n x7c, Value.string x50, Value.bool true, Value.int .i64 (x10 + 1)], H)) :=
 lp_of2 [.e, .e, .b true, .v (vP x25p x25o x25l), .v (.bool x26), .b true, .b true, .v (vS x29a x29n x29c), .b true, .b true, .v (vP x31p x31o x31l), .b true, .v (.bool x32), .b true, .b true, .b true, .e, .b true, .b false, .b false, .b false, .v (vP x40p x40o x40l), .b false, .v (.string x41), .b false, .b false, .v (vI x43), .b false, .e, .b true, .b false, .b true, .b true, .v (vP x49p x49o x49l), .v (.string x50), .e] (ai (decide_eq_true h1) (ai h2 (ai h3 (ai h4 (ai h4 (ai h5 (ai h4 (ai h4 (ai h6 (ai h4 (ai h7 (ai h4 (ai h8 (ai h8 (ai h8 (ai h9 (ai h9 (ai h9 (ai h10 (ai h9 (ai h11 (ai h9 (ai h9 (ai h12 (ai h9 (ai h8 (ai h9 (ai h8 (ai (decide_eq_true h13) (ai h14 (ai h15 (ai h16 (Eq.refl (Sum.inl ([vP x2p x2o x2l, vS x6a x6n x6c, vS x7a x7n x7c, Value.string x50, Value.bool true, vI (x10 + 1)], H) : LS ⊕ LO)))))))))))))))))))))))))))))))))) (by kernel_rfl)
theorem f67_L0_1 (h1 : x10 < (↑x7n : Int)) (h2 : aX 23 (vS x7a x7n x7c) (vI x10) = some (vP x25p x25o x25l)) (h3 : getCells H x25p x25l x25o 1 = some [Value.bool x26]) (h4 : x26 = true) (h5 : getCells H x2p x2l (x2o + 2) 1 = some [vS x29a x29n x29c]) (h6 : aX 23 (vS x29a x29n x29c) (vI x10) = some (vP x31p x31o x31l)) (h7 : getCells H x31p x31l x31o 1 = some [Value.bool x32]) (h8 : x32 = true) (h9 : (!x9) = false) (h10 : aX 43 (vS x6a x6n x6c) (vI x10) = some (vP x40p x40o x40l)) (h11 : getCells H x40p x40l x40o 1 = some [Value.string x41]) (h12 : cI 28 [Value.string x41, Value.string x8] H0.length H = some (vI x43, H)) (h13 : ¬(x43 < 0)) (h14 : Fit .i64 (x10 + 1)) : lpOf cfg a67 0 prot H0 ([.pointer (some ⟨x2p, x2o, some x2l⟩), .slice x6a x6n x6c, .slice x7a x7n x7c, .string x8, .bool x9, .int .i64 x10], H) = some (Sum.inl ([Value.pointer (some ⟨x2p, x2o, some x2l⟩), Value.slice x6a x6n x6c, Value.slice x7a x7n x7c, Value.string x8, Value.bool x9, Value.int .i64 (x10 + 1)], H)) :=
 lp_of2 [.e, .e, .b true, .v (vP x25p x25o x25l), .v (.bool x26), .b true, .b true, .v (vS x29a x29n x29c), .b true, .b true, .v (vP x31p x31o x31l), .b true, .v (.bool x32), .b true, .b true, .b true, .e, .b true, .b false, .b false, .b false, .v (vP x40p x40o x40l), .b false, .v (.string x41), .b false, .b false, .v (vI x43), .b false, .e, .b true, .b false, .b true, .b false, .e] (ai (decide_eq_true h1) (ai h2 (ai h3 (ai h4 (ai h4 (ai h5 (ai h4 (ai h4 (ai h6 (ai h4 (ai h7 (ai h4 (ai h8 (ai h8 (ai h8 (ai h9 (ai h9 (ai h9 (ai h10 (ai h9 (ai h11 (ai h9 (ai h9 (ai h12 (ai h9 (ai h8 (ai h9 (ai h8 (ai (decide_eq_false h13) (ai h14 (Eq.refl (Sum.inl ([vP x2p x2o x2l, vS x6a x6n x6c, vS x7a x7n x7c, Value.string x8, Value.bool x9, vI (x10 + 1)], H) : LS ⊕ LO)))))))))))))))))))))))))))))))) (by kernel_rfl)
theorem f67_L0_2 (h1 : x10 < (↑x7n : Int)) (h2 : aX 23 (vS x7a x7n x7c) (vI x10) = some (vP x25p x25o x25l)) (h3 : getCells H x25p x25l x25o 1 = some [Value.bool x26]) (h4 : x26 = true) (h5 : getCells H x2p x2l (x2o + 2) 1 = some [vS x29a x29n x29c]) (h6 : aX 23 (vS x29a x29n x29c) (vI x10) = some (vP x31p x31o x31l)) (h7 : getCells H x31p x31l x31o 1 = some [Value.bool x32]) (h8 : x32 = true) (h9 : (!x9) = true) (h10 : aX 43 (vS x6a x6n x6c) (vI x10) = some (vP x49p x49o x49l)) (h11 : getCells H x49p x49l x49o 1 = some [Value.string x50]) (h12 : Fit .i64 (x10 + 1)) : lpOf cfg a67 0 prot H0 ([.pointer (some ⟨x2p, x2o, some x2l⟩), .slice x6a x6n x6c, .slice x7a x7n x7c, .string x8, .bool x9, .int .i64 x10], H) = some (Sum.inl ([Value.pointer (some ⟨x2p, x2o, some x2l⟩), Value.slice x6a x6n x6c, Value.slice x7a x7n x7c, Value.string x50, Value.bool true, Value.int .i64 (x10 + 1)], H)) :=
 lp_of2 [.e, .e, .b true, .v (vP x25p x25o x25l), .v (.bool x26), .b true, .b true, .v (vS x29a x29n x29c), .b true, .b true, .v (vP x31p x31o x31l), .b true, .v (.bool x32), .b true, .b true, .b true, .e, .b true, .b true, .b true, .b true, .b true, .b true, .b true, .b true, .b true, .b true, .b true, .b true, .v (vP x49p x49o x49l), .v (.string x50), .e] (ai (decide_eq_true h1) (ai h2 (ai h3 (ai h4 (ai h4 (ai h5 (ai h4 (ai h4 (ai h6 (ai h4 (ai h7 (ai h4 (ai h8 (ai h8 (ai h8 (ai h9 (ai h9 (ai h9 (ai h9 (ai h9 (ai h9 (ai h9 (ai h8 (ai h9 (ai h8 (ai (Eq.refl true) (ai h10 (ai h11 (ai h12 (Eq.refl (Sum.inl ([vP x2p x2o x2l, vS x6a x6n x6c, vS x7a x7n x7c, Value.string x50, Value.bool true, vI (x10 + 1)], H) : LS ⊕ LO))))))))))))))))))))))))))))))) (by kernel_rfl)
theorem f67_L0_3 (h1 : x10 < (↑x7n : Int)) (h2 : aX 23 (vS x7a x7n x7c) (vI x10) = some (vP x25p x25o x25l)) (h3 : getCells H x25p x25l x25o 1 = some [Value.bool x26]) (h4 : x26 = true) (h5 : getCells H x2p x2l (x2o + 2) 1 = some [vS x29a x29n x29c]) (h6 : aX 23 (vS x29a x29n x29c) (vI x10) = some (vP x31p x31o x31l)) (h7 : getCells H x31p x31l x31o 1 = some [Value.bool x32]) (h8 : x32 = false) (h9 : Fit .i64 (x10 + 1)) : lpOf cfg a67 0 prot H0 ([.pointer (some ⟨x2p, x2o, some x2l⟩), .slice x6a x6n x6c, .slice x7a x7n x7c, .string x8, .bool x9, .int .i64 x10], H) = some (Sum.inl ([Value.pointer (some ⟨x2p, x2o, some x2l⟩), Value.slice x6a x6n x6c, Value.slice x7a x7n x7c, Value.string x8, Value.bool x9, Value.int .i64 (x10 + 1)], H)) :=
 lp_of2 [.e, .e, .b true, .v (vP x25p x25o x25l), .v (.bool x26), .b true, .b true, .v (vS x29a x29n x29c), .b true, .b true, .v (vP x31p x31o x31l), .b true, .v (.bool x32), .b true, .b false, .b false, .b false, .b false, .b false, .b false, .e] (ai (decide_eq_true h1) (ai h2 (ai h3 (ai h4 (ai h4 (ai h5 (ai h4 (ai h4 (ai h6 (ai h4 (ai h7 (ai h4 (ai h8 (ai h8 (ai h8 (ai h8 (ai h8 (ai (Eq.refl false) (ai h9 (Eq.refl (Sum.inl ([vP x2p x2o x2l, vS x6a x6n x6c, vS x7a x7n x7c, Value.string x8, Value.bool x9, vI (x10 + 1)], H) : LS ⊕ LO))))))))))))))))))))) (by kernel_rfl)
theorem f67_L0_4 (h1 : x10 < (↑x7n : Int)) (h2 : aX 23 (vS x7a x7n x7c) (vI x10) = some (vP x25p x25o x25l)) (h3 : getCells H x25p x25l x25o 1 = some [Value.bool x26]) (h4 : x26 = false) (h5 : Fit .i64 (x10 + 1)) : lpOf cfg a67 0 prot H0 ([.pointer (some ⟨x2p, x2o, some x2l⟩), .slice x6a x6n x6c, .slice x7a x7n x7c, .string x8, .bool x9, .int .i64 x10], H) = some (Sum.inl ([Value.pointer (some ⟨x2p, x2o, some x2l⟩), Value.slice x6a x6n x6c, Value.slice x7a x7n x7c, Value.string x8, Value.bool x9, Value.int .i64 (x10 + 1)], H)) :=
 lp_of2 [.e, .e, .b true, .v (vP x25p x25o x25l), .v (.bool x26), .b false, .b false, .b false, .b false, .b false, .b false, .b false, .b false, .b false, .b false, .b false, .b false, .e] (ai (decide_eq_true h1) (ai h2 (ai h3 (ai h4 (ai h4 (ai h4 (ai h4 (ai h4 (ai h4 (ai (Eq.refl false) (ai (Eq.refl false) (ai (Eq.refl false) (ai (Eq.refl false) (ai (Eq.refl false) (ai (Eq.refl false) (ai h5 (Eq.refl (Sum.inl ([vP x2p x2o x2l, vS x6a x6n x6c, vS x7a x7n x7c, Value.string x8, Value.bool x9, vI (x10 + 1)], H) : LS ⊕ LO)))))))))))))))))) (by kernel_rfl)
theorem f67_L0_5 (h1 : ¬(x10 < (↑x7n : Int))) : lpOf cfg a67 0 prot H0 ([.pointer (some ⟨x2p, x2o, some x2l⟩), .slice x6a x6n x6c, .slice x7a x7n x7c, .string x8, .bool x9, .int .i64 x10], H) = some (Sum.inr (Ex.exit 0, [Value.string x8, Value.bool x9], H)) :=
 lp_of2 [.e, .e, .b false] (ai (decide_eq_false h1) (Eq.refl (Sum.inr (Ex.exit 0, [Value.string x8, Value.bool x9], H) : LS ⊕ LO))) (by kernel_rfl)
end
end Go.Proofs.Ythjkodbinkiifaa.Am23
set_option linter.unusedVariables false
open Go Go.Proofs.Ythjkodbinkiifaa.Am
namespace Go.Proofs.Ythjkodbinkiifaa.Am23
section
variable {x0a x10a x6 x21a : Int}
variable {x0ba x0ca x10ba x10ca x11aa x11ba z5a x4a x5a x21ba x21ca x35a : Option Addr}
variable {x0bn x0bc x0cn x0cc prot x10bn x10bc x10cn x10cc x11an x11ac x11bn x11bc z5n z5c x1p x1o x1l x4n x4c x5n x5c x21bn x21bc x21cn x21cc x29p x29o x29l x35n x35c : Nat}
variable {H H1 H2 H0 : AHeap}
variable {x23a : ByteArray}
variable {x23b x30 : Bool}
theorem f59_F_0 (rv : Value) (rH : AHeap) (h1 : [vI x0a, vS x0ba x0bn x0bc, vS x0ca x0cn x0cc].all isCell = true) (h2 : getCells (H ++ [vo [vI x0a, vS x0ba x0bn x0bc, vS x0ca x0cn x0cc] 25]) H.length 3 0 3 = some [vI x10a, vS x10ba x10bn x10bc, vS x10ca x10cn x10cc]) (h3 : cI 66 [Value.agg #[vI x10a, vS x10ba x10bn x10bc, vS x10ca x10cn x10cc], vI 0, Value.bool false] H.length (H ++ [vo [vI x0a, vS x0ba x0bn x0bc, vS x0ca x0cn x0cc] 25]) = some (Value.tuple #[vS x11aa x11an x11ac, vS x11ba x11bn x11bc], H1)) (h4 : lI a59 0 prot H ([vP H.length 0 3, vS x11ba x11bn x11bc, vS none 0 0, vI 0], H1) = some (Ex.exit 0, [vS z5a z5n z5c], H2)) (h5 : pfin a59 H [vS z5a z5n z5c] H2 = (rv, rH)) : callInf cfg 59 [.agg #[.int .i64 x0a, .slice x0ba x0bn x0bc, .slice x0ca x0cn x0cc]] prot H = some (rv, rH) :=
 fn_of2 a59 [.e, .v (.agg #[vI x10a, vS x10ba x10bn x10bc, vS x10ca x10cn x10cc]), .r (.tuple #[vS x11aa x11an x11ac, vS x11ba x11bn x11bc]) H1, .lo (.exit 0, [vS z5a z5n z5c], H2)] (ai h1 (ai h2 (ai h3 (ai h4 h5)))) (by kernel_rfl) rfl
theorem f59_L0_0 (h1 : x6 < (↑x4n : Int)) (h2 : getCells H x1p x1l x1o 3 = some [vI x21a, vS x21ba x21bn x21bc, vS x21ca x21cn x21cc]) (h3 : cI 67 [Value.agg #[vI x21a, vS x21ba x21bn x21bc, vS x21ca x21cn x21cc], vI x6] H0.length H = some (Value.tuple #[Value.string x23a, Value.bool x23b], H)) (h4 : aX 23 (vS x4a x4n x4c) (vI x6) = some (vP x29p x29o x29l)) (h5 : getCells H x29p x29l x29o 1 = some [Value.bool x30]) (h6 : x30 = true) (h7 : aappend cfg.P H0.length true 23 23 (vS x5a x5n x5c) (vS (some ⟨H.length, 0, some (1 * 1)⟩) 1 1) (H ++ [wo [Value.bool x23b] 4]) = some (vS x35a x35n x35c, H2)) (h8 : Fit .i64 (x6 + 1)) : lpOf cfg a59 0 prot H0 ([.pointer (some ⟨x1p, x1o, some x1l⟩), .slice x4a x4n x4c, .slice x5a x5n x5c, .int .i64 x6], H) = some (Sum.inl ([Value.pointer (some ⟨x1p, x1o, some x1l⟩), Value.slice x4a x4n x4c, Value.slice x35a x35n x35c, Value.int .i64 (x6 + 1)], H2)) :=
 lp_of2 [.e, .e, .b true, .v (.agg #[vI x21a, vS x21ba x21bn x21bc, vS x21ca x21cn x21cc]), .v (.tuple #[.string x23a, .bool x23b]), .v (vP x29p x29o x29l), .v (.bool x30), .b true, .b true, .e, .r (vS x35a x35n x35c) H2, .e] (ai (decide_eq_true h1) (ai h2 (ai h3 (ai h4 (ai h5 (ai h6 (ai h6 (ai h7 (ai h8 (Eq.refl (Sum.inl ([vP x1p x1o x1l, vS x4a x4n x4c, vS x35a x35n x35c, vI (x6 + 1)], H2) : LS ⊕ LO))))))))))) (by kernel_rfl)
theorem f59_L0_1 (h1 : x6 < (↑x4n : Int)) (h2 : getCells H x1p x1l x1o 3 = some [vI x21a, vS x21ba x21bn x21bc, vS x21ca x21cn x21cc]) (h3 : cI 67 [Value.agg #[vI x21a, vS x21ba x21bn x21bc, vS x21ca x21cn x21cc], vI x6] H0.length H = some (Value.tuple #[Value.string x23a, Value.bool x23b], H)) (h4 : aX 23 (vS x4a x4n x4c) (vI x6) = some (vP x29p x29o x29l)) (h5 : getCells H x29p x29l x29o 1 = some [Value.bool x30]) (h6 : x30 = false) (h7 : aappend cfg.P H0.length true 23 23 (vS x5a x5n x5c) (vS (some ⟨H.length, 0, some (1 * 1)⟩) 1 1) (H ++ [wo [Value.bool false] 4]) = some (vS x35a x35n x35c, H2)) (h8 : Fit .i64 (x6 + 1)) : lpOf cfg a59 0 prot H0 ([.pointer (some ⟨x1p, x1o, some x1l⟩), .slice x4a x4n x4c, .slice x5a x5n x5c, .int .i64 x6], H) = some (Sum.inl ([Value.pointer (some ⟨x1p, x1o, some x1l⟩), Value.slice x4a x4n x4c, Value.slice x35a x35n x35c, Value.int .i64 (x6 + 1)], H2)) :=
 lp_of2 [.e, .e, .b true, .v (.agg #[vI x21a, vS x21ba x21bn x21bc, vS x21ca x21cn x21cc]), .v (.tuple #[.string x23a, .bool x23b]), .v (vP x29p x29o x29l), .v (.bool x30), .b false, .b false, .e, .r (vS x35a x35n x35c) H2, .e] (ai (decide_eq_true h1) (ai h2 (ai h3 (ai h4 (ai h5 (ai h6 (ai h6 (ai h7 (ai h8 (Eq.refl (Sum.inl ([vP x1p x1o x1l, vS x4a x4n x4c, vS x35a x35n x35c, vI (x6 + 1)], H2) : LS ⊕ LO))))))))))) (by kernel_rfl)
theorem f59_L0_2 (h1 : ¬(x6 < (↑x4n : Int))) : lpOf cfg a59 0 prot H0 ([.pointer (some ⟨x1p, x1o, some x1l⟩), .slice x4a x4n x4c, .slice x5a x5n x5c, .int .i64 x6], H) = some (Sum.inr (Ex.exit 0, [Value.slice x5a x5n x5c], H)) :=
 lp_of2 [.e, .e, .b false] (ai (decide_eq_false h1) (Eq.refl (Sum.inr (Ex.exit 0, [vS x5a x5n x5c], H) : LS ⊕ LO))) (by kernel_rfl)
end
end Go.Proofs.Ythjkodbinkiifaa.Am23
namespace Go.Proofs.Ythjkodbinkiifaa.Am23
open Go Go.Proofs.Ythjkodbinkiifaa.Am

def wv (k : Nat) (xs : List Int) (n a : Nat) : Option Nat → ByteArray
 | none => ByteArray.empty
 | some t => wd0 k xs n a t

theorem loop67 {k a : Nat} {xs : List Int} {bs : List Bool} (hG : Good k xs bs) (ha : a < bs.length) {H0 H : AHeap} {prot : Nat} {vN vA x6 x7 : Value} {o6 o7 : Nat} (hbx : H[H0.length]? = some (bx k vN vA)) (hA : IsA H xs bs vN vA)
  (w6 : Own H 9 1 x6 (some o6) bs.length (sl (bfs k xs bs.length a true).ws)) (w7 : Own H 4 1 x7 (some o7) bs.length (bll (bfs k xs bs.length a true).met)) : ∀ (d i : Nat) (b : Option Nat), i + d = bs.length →
  lpInf (lpOf cfg a67 0 prot H0) ([.pointer (some ⟨H0.length, 0, some 3⟩), x6, x7, .string (wv k xs bs.length a b), .bool b.isSome, .int .i64 i], H) =
   some (.exit 0, [.string (wv k xs bs.length a (pick (okE k xs bs a) (wd0 k xs bs.length a) d i b)), .bool (pick (okE k xs bs a) (wd0 k xs bs.length a) d i b).isSome], H)
 | 0, i, b, hi => by
  obtain ⟨_, _, rfl⟩ := w6.len
  obtain ⟨_, _, rfl⟩ := w7.len
  exact lp_last (f67_L0_5 (by omega))
 | d + 1, i, b, hi => by
  have hn5 := hG.n5
  have hin : i < bs.length := by omega
  have hok := bfs_ok hG ha true
  have ih := fun b' => loop67 hG ha (prot := prot) hbx hA w6 w7 d (i + 1) b' (by omega)
  obtain ⟨idA, LA, n1, n2⟩ := rd_at T23 hA.a (bl_at hin)
  have fi : Fit .i64 ((i : Int) + 1) := fit64 (by omega) (by omega)
  obtain ⟨_, e, p1, p2⟩ := own_at T23 w7 (bl_at (show i < (bfs k xs bs.length a true).met.length by rw [hok.lm]; exact hin))
  cases e
  obtain ⟨_, e, q1, q2⟩ := own_at T43 w6 (sl_at (show i < (bfs k xs bs.length a true).ws.length by rw [hok.lw]; exact hin))
  cases e
  have step : ∀ b' : Option Nat, b' = upd (okE k xs bs a) (wd0 k xs bs.length a) i b → lpOf cfg a67 0 prot H0 ([.pointer (some ⟨H0.length, 0, some 3⟩), x6, x7, .string (wv k xs bs.length a b), .bool b.isSome, .int .i64 i], H) = some (.inl ([.pointer (some ⟨H0.length, 0, some 3⟩), x6, x7, .string (wv k xs bs.length a b'), .bool b'.isSome, .int .i64 ((i : Int) + 1)], H)) →
    lpInf (lpOf cfg a67 0 prot H0) ([.pointer (some ⟨H0.length, 0, some 3⟩), x6, x7, .string (wv k xs bs.length a b), .bool b.isSome, .int .i64 i], H) =
     some (.exit 0, [.string (wv k xs bs.length a (pick (okE k xs bs a) (wd0 k xs bs.length a) (d + 1) i b)), .bool (pick (okE k xs bs a) (wd0 k xs bs.length a) (d + 1) i b).isSome], H) := fun b' hb' hz => by
   have := ih b'
   exact lp_next hz (by rw [pick, ← hb']; exact this)
  obtain ⟨_, _, rfl⟩ := w6.len
  obtain ⟨_, _, rfl⟩ := w7.len
  obtain ⟨aN, cN, rfl⟩ := hA.n.len
  obtain ⟨aA, cA, rfl⟩ := hA.a.len
  obtain ⟨_, _, g2, _⟩ := fld3 hbx
  by_cases hm : (bfs k xs bs.length a true).met.getD i false = true
  ·rw [hm] at p2
   by_cases hu : bs.getD i false = true
   ·rw [hu] at n2
    have hokt : okE k xs bs a i = true := by unfold okE; rw [hu, hm]; rfl
    cases b with
    | none => exact step (some i) ((upd_ok (b := none) (wd := wd0 k xs bs.length a) hokt (v := true) rfl).symm) (f67_L0_2 (by omega) p1 p2 rfl g2 n1 n2 rfl rfl q1 q2 fi)
    | some t =>
     have hc := c28 (wd0 k xs bs.length a i) (wd0 k xs bs.length a t) H0.length H
     have ho := ord_slt (wd0 k xs bs.length a i) (wd0 k xs bs.length a t)
     by_cases h1 : ordV (wd0 k xs bs.length a i) (wd0 k xs bs.length a t) < 0
     ·exact step (some i) ((upd_ok (b := some t) (wd := wd0 k xs bs.length a) hokt (v := true) (ho.1 h1)).symm) (f67_L0_0 (by omega) p1 p2 rfl g2 n1 n2 rfl rfl q1 q2 hc h1 q1 q2 fi)
     ·have hs : slt (wd0 k xs bs.length a i) (wd0 k xs bs.length a t) = false := by
       cases hh : slt (wd0 k xs bs.length a i) (wd0 k xs bs.length a t) with
       | false => rfl
       | true => exact absurd (ho.2 hh) h1
      exact step (some t) ((upd_ok (b := some t) (wd := wd0 k xs bs.length a) hokt (v := false) hs).symm) (f67_L0_1 (by omega) p1 p2 rfl g2 n1 n2 rfl rfl q1 q2 hc h1 fi)
   ·have hu : bs.getD i false = false := by simpa using hu
    rw [hu] at n2
    exact step b ((upd_no (by unfold okE; rw [hu, Bool.false_and])).symm) (f67_L0_3 (by omega) p1 p2 rfl g2 n1 n2 rfl fi)
  ·have hm : (bfs k xs bs.length a true).met.getD i false = false := by simpa using hm
   rw [hm] at p2
   exact step b ((upd_no (by unfold okE; rw [hm, Bool.and_false])).symm) (f67_L0_4 (by omega) p1 p2 rfl fi)

theorem c67 {k a : Nat} {xs : List Int} {bs : List Bool} {vN vA : Value} (hG : Good k xs bs) (ha : a < bs.length) (prot : Nat) (H : AHeap) (hA : IsA H xs bs vN vA) :
  callInf cfg 67 [av k vN vA, .int .i64 a] prot H = some (.tuple #[.string (wv k xs bs.length a (endV k xs bs a)), .bool (endV k xs bs a).isSome], H) := by
 obtain ⟨HX, hHX⟩ : ∃ HX, HX = H ++ [bx k vN vA] := ⟨_, rfl⟩
 have lX : HX.length = H.length + 1 := by rw [hHX]; simp
 have sX : Stay none H HX := by rw [hHX]; exact Stay.app none H _
 have hgX : HX[H.length]? = some (bx k vN vA) := by rw [hHX]; exact append_get.1
 obtain ⟨x, y, p, q, c, d, H1, r1, rfl, rfl, r2, r3, r4, r5⟩ := c66 hG ha true H.length HX (hA.stay sX)
 have hg1 : H1[H.length]? = some (bx k vN vA) := by rw [r4.2 _ (by omega) (by simp)]; exact hgX
 have hl := loop67 hG ha (prot := prot) hg1 ((hA.stay sX).stay r4) r2 r3 bs.length 0 none (by omega)
 obtain ⟨aN, cN, rfl⟩ := hA.n.len
 obtain ⟨aA, cA, rfl⟩ := hA.a.len
 obtain ⟨_, _, _, gX⟩ := fld3 hgX
 subst hHX
 exact f67_F_0 all3 gX r1 hl

/-- From a state an accepted one is reached just where there is hope. -/
theorem end_hope {k : Nat} {xs : List Int} {bs : List Bool} (hG : Good k xs bs) {s : Nat} (hs : s < bs.length) : (endV k xs bs s).isSome = (hopeL k xs bs).getD s false := by
 cases he : endV k xs bs s with
 | none =>
  obtain ⟨_, hn⟩ := pick_none _ _ _ he
  cases hh : (hopeL k xs bs).getD s false with
  | false => rfl
  | true =>
   rw [List.getD_eq_getElem?_getD, List.getElem?_eq_getElem (by rw [hopeL_len]; exact hs), Option.getD_some, hopeL_get] at hh
   obtain ⟨w, w1, w2⟩ := @of_decide_eq_true _ (Classical.propDecidable _) hh
   have hl := go_lt hG w s w1 hs
   have := hn _ (Nat.zero_le _) (by omega : go k xs s w < 0 + bs.length)
   unfold okE at this
   rw [w2, Bool.true_and, (bfs_met hG hs true _).2 ⟨w, w1, rfl, fun h => by cases h⟩] at this
   cases this
 | some e =>
  have hh : (hopeL k xs bs).getD s false = true := by
   rw [List.getD_eq_getElem?_getD, List.getElem?_eq_getElem (by rw [hopeL_len]; exact hs), Option.getD_some, hopeL_get]
   refine @decide_eq_true _ (Classical.propDecidable _) ?_
   rcases pick_some _ _ _ he with ⟨_, _, h2⟩ | h2
   ·unfold okE at h2
    obtain ⟨h3, h4⟩ := Bool.and_eq_true _ _ ▸ h2
    obtain ⟨w, w1, w2, _⟩ := (bfs_met hG hs true e).1 h4
    exact ⟨w, w1, by rw [w2]; exact h3⟩
   ·cases h2
  rw [hh]; rfl

theorem loop59 {k : Nat} {xs : List Int} {bs : List Bool} (hG : Good k xs bs) {H0 : AHeap} {prot : Nat} {vN vA x4 : Value} {o4 : Nat} (l4 : H0.length < o4) (hlN : Low H0.length vN) (hlA : Low H0.length vA) : ∀ (d i : Nat) (x5 : Value) (o : Option Nat) (H : AHeap), i + d = bs.length → H[H0.length]? = some (bx k vN vA) → IsA H xs bs vN vA →
  Own H 4 1 x4 (some o4) bs.length (bll (bfs k xs bs.length 0 true).met) → Own H 4 1 x5 o i (bll ((useL k xs bs).take i)) → (∀ id, o = some id → o4 < id) → o4 < H.length →
  ∃ a5 c5 o' H', lpInf (lpOf cfg a59 0 prot H0) ([.pointer (some ⟨H0.length, 0, some 3⟩), x4, x5, .int .i64 i], H) = some (.exit 0, [.slice a5 bs.length c5], H') ∧ Own H' 4 1 (.slice a5 bs.length c5) o' bs.length (bll (useL k xs bs)) ∧ (∀ id, o' = some id → o4 < id)
 | 0, i, x5, o, H, hi, hbx, hA, w4, w5, ho, hl => by
  obtain ⟨a4, c4, rfl⟩ := w4.len
  obtain ⟨a5, c5, rfl⟩ := w5.len
  have : i = bs.length := by omega
  subst this
  rw [List.take_of_length_le (by rw [useL_len]; exact Nat.le_refl _)] at w5
  exact ⟨a5, c5, o, H, lp_last (f59_L0_2 (by omega)), w5, ho⟩
 | d + 1, i, x5, o, H, hi, hbx, hA, w4, w5, ho, hl => by
  have hn5 := hG.n5
  have hin : i < bs.length := by omega
  have hok := bfs_ok hG (show 0 < bs.length by omega) true
  have hc := c67 hG hin H0.length H hA
  obtain ⟨_, e, p1, p2⟩ := own_at T23 w4 (bl_at (show i < (bfs k xs bs.length 0 true).met.length by rw [hok.lm]; exact hin))
  cases e
  have fi : Fit .i64 ((i : Int) + 1) := fit64 (by omega) (by omega)
  have hu := useL_at (k := k) (xs := xs) hin
  rw [← end_hope hG hin] at hu
  obtain ⟨_, _, _, g3⟩ := fld3 hbx
  obtain ⟨a', c', o', H4, z1, z2, z3, z4, z5, z6⟩ := own_app T23 w5 (ecs := [.bool ((useL k xs bs).getD i false)]) rfl rfl (prot := H0.length) (room := true) (fun id hh => by have := ho id hh; omega) (by omega) (by omega) (L := 1 * 1) rfl (el := [Value.bool ((useL k xs bs).getD i false)].length) rfl
  have hne : ∀ q, q ≤ o4 → o ≠ some q := fun q hq hh => by have := ho q hh; omega
  have ho' : o4 < o' := by
   cases o with
   | none => have := z5 rfl; omega
   | some id => rw [z6 id rfl]; exact ho id rfl
  have hw : bll ((useL k xs bs).take i) ++ [.bool ((useL k xs bs).getD i false)] = bll ((useL k xs bs).take (i + 1)) := by
   have hiu : i < (useL k xs bs).length := by rw [useL_len]; exact hin
   rw [List.take_add_one, List.getElem?_eq_getElem hiu, List.getD_eq_getElem?_getD, List.getElem?_eq_getElem hiu]
   unfold bll
   rw [List.map_append]
   rfl
  rw [hw] at z2
  have lb := (List.getElem?_eq_some_iff.1 hbx).1
  have hrec := loop59 hG (prot := prot) l4 hlN hlA d (i + 1) (.slice a' (i + 1) c') (some o') H4 (by omega) (by rw [z3.2 _ lb (hne _ (by omega))]; exact hbx)
   ⟨hA.n.stayLow hlN z3 (fun id hh => by have := ho id hh; omega), hA.a.stayLow hlA z3 (fun id hh => by have := ho id hh; omega)⟩ (w4.stay z3 (fun id h1 h2 => by have := Option.some.inj h1; have := ho id h2; omega)) z2 (fun id hh => by cases hh; exact ho') (by have := z3.1; omega)
  obtain ⟨a6, c6, o6, H6, r1, r2, r3⟩ := hrec
  obtain ⟨a4, c4, rfl⟩ := w4.len
  obtain ⟨a5, c5, rfl⟩ := w5.len
  obtain ⟨aN, cN, rfl⟩ := hA.n.len
  obtain ⟨aA, cA, rfl⟩ := hA.a.len
  refine ⟨a6, c6, o6, H6, ?_, r2, r3⟩
  by_cases hm : (bfs k xs bs.length 0 true).met.getD i false = true
  ·rw [hm] at p2
   rw [hm, Bool.true_and] at hu
   rw [hu] at z1
   exact lp_next (f59_L0_0 (by omega) g3 hc p1 p2 rfl z1 fi) r1
  ·have hm : (bfs k xs bs.length 0 true).met.getD i false = false := by simpa using hm
   rw [hm] at p2
   rw [hm, Bool.false_and] at hu
   rw [hu] at z1
   exact lp_next (f59_L0_1 (by omega) g3 hc p1 p2 rfl z1 fi) r1

theorem c59 {k : Nat} {xs : List Int} {bs : List Bool} {vN vA : Value} (hG : Good k xs bs) (prot : Nat) (H : AHeap) (hA : IsA H xs bs vN vA) :
  ∃ p c H', callInf cfg 59 [av k vN vA] prot H = some (.slice p bs.length c, H') ∧ Own H' 4 1 (.slice p bs.length c) (some H.length) bs.length (bll (useL k xs bs)) ∧ Stay none H H' := by
 have hb1 := hG.n1
 have lN := hA.n.low
 have lA := hA.a.low
 obtain ⟨HX, hHX⟩ : ∃ HX, HX = H ++ [bx k vN vA] := ⟨_, rfl⟩
 have lX : HX.length = H.length + 1 := by rw [hHX]; simp
 have sX : Stay none H HX := by rw [hHX]; exact Stay.app none H _
 have hgX : HX[H.length]? = some (bx k vN vA) := by rw [hHX]; exact append_get.1
 obtain ⟨x, y, p, q, c, d, H1, r1, rfl, rfl, r2, r3, r4, r5⟩ := c66 hG (a := 0) (by omega) true H.length HX (hA.stay sX)
 have hg1 : H1[H.length]? = some (bx k vN vA) := by rw [r4.2 _ (by omega) (by simp)]; exact hgX
 obtain ⟨a6, c6, o6, H2, q1, q2, q3⟩ := loop59 hG (prot := prot) (by omega) lN lA bs.length 0 _ none H1 (by omega) hg1 ((hA.stay sX).stay r4) r3 own_nil (fun id h => by cases h) (by omega)
 cases o6 with
 | none => have := q2.2.1; omega
 | some id =>
  obtain ⟨H3, s1, s2, s3⟩ := gc_own q2 (H := H) (by have := q3 id rfl; omega) (bll_cell _)
  obtain ⟨aN, cN, rfl⟩ := hA.n.len
  obtain ⟨aA, cA, rfl⟩ := hA.a.len
  obtain ⟨_, _, _, gX⟩ := fld3 hgX
  refine ⟨_, _, H3, ?_, s2, s3⟩
  subst hHX
  exact f59_F_0 _ _ all3 gX r1 q1 (by rw [pfin_eq]; exact s1)
end Go.Proofs.Ythjkodbinkiifaa.Am23
set_option linter.unusedVariables false
open Go Go.Proofs.Ythjkodbinkiifaa.Am
namespace Go.Proofs.Ythjkodbinkiifaa.Am23
section
variable {x0a x26a x27 x31a x72b z12 z12_2 x143b z21 x8 z8 x10 x41 x52a x55 x59a x62 x12 x15 x89 x91 z15 x16 x110 x112 x116 x122 x124 x17 x135 x139 x21 x22 z22 x23 x161 x168 z23 x206 x24 x25 x193 x198 : Int}
variable {x0ba x0ca x26ba x26ca x31ba x31ca x32a z7a x71a x72aa z7a_2 z13a z14a z7a_3 z14a_2 x143aa x6a x7a z6a z9a x68a x9a x52ba x52ca x59ba x59ca x64a x11a x13a x14a z11a x98a x107a x18a x20a z18a z20a : Option Addr}
variable {x0bn x0bc x0cn x0cc prot x26bn x26bc x26cn x26cc x31bn x31bc x31cn x31cc x32n x32c z7n z7c x71n x71c x72an x72ac z7n_2 z7c_2 z13n z13c z14n z14c z7n_3 z7c_3 z14n_2 z14c_2 x143an x143ac x1p x1o x1l x6n x6c x7n x7c z1p z1o z1l z6n z6c z9n z9c x68n x68c x9n x9c x46p x46o x46l x52bn x52bc x52cn x52cc x56p x56o x56l x59bn x59bc x59cn x59cc x64n x64c x11n x11c x13n x13c x14n x14c x88p x88o x88l x90p x90o x90l x93p x93o x93l z11n z11c x97p x97o x97l x98n x98c x106p x106o x106l x107n x107c x109p x109o x109l x111p x111o x111l x115p x115o x115l x121p x121o x121l x123p x123o x123l x126p x126o x126l x134p x134o x134l x138p x138o x138l x18n x18c x20n x20c z18n z18c z20n z20c x160p x160o x160l x167p x167o x167l x171p x171o x171l x205p x205o x205l x183p x183o x183l x192p x192o x192l x197p x197o x197l x201p x201o x201l : Nat}
variable {H H1 H2 H3 H4 H5 H6 H7 H8 H0 : AHeap}
variable {z2 z3 z4 z7 z14 : Value}
variable {x47 x57 x186 : Bool}
variable {x184 : Array Value}
theorem f34_F_0 (h1 : [vI x0a, vS x0ba x0bn x0bc, vS x0ca x0cn x0cc].all isCell = true) (h2 : getCells (H ++ [vo [vI x0a, vS x0ba x0bn x0bc, vS x0ca x0cn x0cc] 25]) H.length 3 0 3 = some [vI x26a, vS x26ba x26bn x26bc, vS x26ca x26cn x26cc]) (h3 : cI 41 [Value.agg #[vI x26a, vS x26ba x26bn x26bc, vS x26ca x26cn x26cc]] H.length (H ++ [vo [vI x0a, vS x0ba x0bn x0bc, vS x0ca x0cn x0cc] 25]) = some (vI x27, H ++ [vo [vI x0a, vS x0ba x0bn x0bc, vS x0ca x0cn x0cc] 25])) (h4 : (x27 != 0) = true) : callInf cfg 34 [.agg #[.int .i64 x0a, .slice x0ba x0bn x0bc, .slice x0ca x0cn x0cc]] prot H = some (Value.tuple { toList := [Value.int .i64 0, Value.bool false, Value.int .i64 x27] }, H) :=
 fn_of2 a34 [.e, .v (.agg #[vI x26a, vS x26ba x26bn x26bc, vS x26ca x26cn x26cc]), .v (vI x27), .e, .b true] (ai h1 (ai h2 (ai h3 (ai h4 (Eq.refl ((Value.tuple #[vI 0, Value.bool false, vI x27], H) : Value × AHeap)))))) (by kernel_rfl) rfl
theorem f34_F_1 (h1 : [vI x0a, vS x0ba x0bn x0bc, vS x0ca x0cn x0cc].all isCell = true) (h2 : getCells (H ++ [vo [vI x0a, vS x0ba x0bn x0bc, vS x0ca x0cn x0cc] 25]) H.length 3 0 3 = some [vI x26a, vS x26ba x26bn x26bc, vS x26ca x26cn x26cc]) (h3 : cI 41 [Value.agg #[vI x26a, vS x26ba x26bn x26bc, vS x26ca x26cn x26cc]] H.length (H ++ [vo [vI x0a, vS x0ba x0bn x0bc, vS x0ca x0cn x0cc] 25]) = some (vI x27, H ++ [vo [vI x0a, vS x0ba x0bn x0bc, vS x0ca x0cn x0cc] 25])) (h4 : (x27 != 0) = false) (h5 : getCells (H ++ [vo [vI x0a, vS x0ba x0bn x0bc, vS x0ca x0cn x0cc] 25]) H.length 3 0 3 = some [vI x31a, vS x31ba x31bn x31bc, vS x31ca x31cn x31cc]) (h6 : cI 59 [Value.agg #[vI x31a, vS x31ba x31bn x31bc, vS x31ca x31cn x31cc]] H.length (H ++ [vo [vI x0a, vS x0ba x0bn x0bc, vS x0ca x0cn x0cc] 25]) = some (vS x32a x32n x32c, H1)) (h7 : lI a34 0 prot H ([vP H.length 0 3, vS x32a x32n x32c, vS none 0 0, vI 0], H1) = some (Ex.exit 0, [vS z7a z7n z7c], H2)) (h8 : cI 61 [vS z7a z7n z7c] H.length H2 = some (vS x71a x71n x71c, H3)) (h9 : cI 60 [vS x71a x71n x71c] H.length H3 = some (Value.tuple #[vS x72aa x72an x72ac, vI x72b], H4)) (h10 : 0 ≤ x72b) (h11 : x72b = x72b) (h12 : x72b ≤ 9223372036854775807) (h13 : (↑8 : Int) * x72b ≤ 2 ^ 48) (h14 : lI a34 2 prot H ([vS z7a z7n z7c, vS x72aa x72an x72ac, vI x72b, vS (some ⟨H4.length, 0, some (x72b.toNat * 1)⟩) x72b.toNat x72b.toNat, vS (some ⟨List.length (H4 ++ [AObj.cells (repCells [vI 0] x72b.toNat) 3 (repCells [vI 0] x72b.toNat).length OMode.row]), 0, some (x72b.toNat * 1)⟩) x72b.toNat x72b.toNat, vI 0], H4 ++ [AObj.cells (repCells [vI 0] x72b.toNat) 3 (repCells [vI 0] x72b.toNat).length OMode.row] ++ [AObj.cells (repCells [vI 0] x72b.toNat) 3 (repCells [vI 0] x72b.toNat).length OMode.row]) = some (Ex.exit 4, [vS z7a_2 z7n_2 z7c_2, vI z12, vS z13a z13n z13c, vS z14a z14n z14c], H5)) (h15 : lI a34 4 prot H ([vS z7a_2 z7n_2 z7c_2, vI z12, vS z13a z13n z13c, vS z14a z14n z14c, vI 0], H5) = some (Ex.exit 8, [z2, z3, z4, vS z7a_3 z7n_3 z7c_3, vI z12_2, vS z14a_2 z14n_2 z14c_2], H6)) (h16 : cI 62 [vS z7a_3 z7n_3 z7c_3] H.length H6 = some (Value.tuple #[vS x143aa x143an x143ac, vI x143b], H7)) (h17 : 0 ≤ z12_2) (h18 : z12_2 = z12_2) (h19 : z12_2 ≤ 9223372036854775807) (h20 : (↑8 : Int) * z12_2 ≤ 2 ^ 48) (h21 : lI a34 5 prot H ([vI z12_2, vS z14a_2 z14n_2 z14c_2, vS x143aa x143an x143ac, vS (some ⟨H7.length, 0, some (z12_2.toNat * 1)⟩) z12_2.toNat z12_2.toNat, vI 0, vI 0], H7 ++ [AObj.cells (repCells [vI 0] z12_2.toNat) 3 (repCells [vI 0] z12_2.toNat).length OMode.row]) = some (Ex.exit 10, [vI z21], H8)) (h22 : Fit .i64 (z21 - 1)) : callInf cfg 34 [.agg #[.int .i64 x0a, .slice x0ba x0bn x0bc, .slice x0ca x0cn x0cc]] prot H = some (Value.tuple { toList := [Value.int .i64 (z21 - 1), Value.bool true, Value.int .i64 0] }, H) :=
 fn_of2 a34 [.e, .v (.agg #[vI x26a, vS x26ba x26bn x26bc, vS x26ca x26cn x26cc]), .v (vI x27), .e, .b false, .v (.agg #[vI x31a, vS x31ba x31bn x31bc, vS x31ca x31cn x31cc]), .r (vS x32a x32n x32c) H1, .lo (.exit 0, [vS z7a z7n z7c], H2), .r (vS x71a x71n x71c) H3, .r (.tuple #[vS x72aa x72an x72ac, vI x72b]) H4, .e, .e, .lo (.exit 4, [vS z7a_2 z7n_2 z7c_2, vI z12, vS z13a z13n z13c, vS z14a z14n z14c], H5), .lo (.exit 8, [z2, z3, z4, vS z7a_3 z7n_3 z7c_3, vI z12_2, vS z14a_2 z14n_2 z14c_2], H6), .r (.tuple #[vS x143aa x143an x143ac, vI x143b]) H7, .e, .lo (.exit 10, [vI z21], H8), .e] (ai h1 (ai h2 (ai h3 (ai h4 (ai h5 (ai h6 (ai h7 (ai h8 (ai h9 (ai h10 (ai h11 (ai h12 (ai h13 (ai h10 (ai h11 (ai h12 (ai h13 (ai h14 (ai h15 (ai h16 (ai h17 (ai h18 (ai h19 (ai h20 (ai h21 (ai h22 (Eq.refl ((Value.tuple #[vI (z21 - 1), Value.bool true, vI 0], H) : Value × AHeap)))))))))))))))))))))))))))) (by kernel_rfl) rfl
theorem f34_F_2 {z2 : Int} {z3 : Bool} {z4 : Int} {z12_2 : Value} (h1 : [vI x0a, vS x0ba x0bn x0bc, vS x0ca x0cn x0cc].all isCell = true) (h2 : getCells (H ++ [vo [vI x0a, vS x0ba x0bn x0bc, vS x0ca x0cn x0cc] 25]) H.length 3 0 3 = some [vI x26a, vS x26ba x26bn x26bc, vS x26ca x26cn x26cc]) (h3 : cI 41 [Value.agg #[vI x26a, vS x26ba x26bn x26bc, vS x26ca x26cn x26cc]] H.length (H ++ [vo [vI x0a, vS x0ba x0bn x0bc, vS x0ca x0cn x0cc] 25]) = some (vI x27, H ++ [vo [vI x0a, vS x0ba x0bn x0bc, vS x0ca x0cn x0cc] 25])) (h4 : (x27 != 0) = false) (h5 : getCells (H ++ [vo [vI x0a, vS x0ba x0bn x0bc, vS x0ca x0cn x0cc] 25]) H.length 3 0 3 = some [vI x31a, vS x31ba x31bn x31bc, vS x31ca x31cn x31cc]) (h6 : cI 59 [Value.agg #[vI x31a, vS x31ba x31bn x31bc, vS x31ca x31cn x31cc]] H.length (H ++ [vo [vI x0a, vS x0ba x0bn x0bc, vS x0ca x0cn x0cc] 25]) = some (vS x32a x32n x32c, H1)) (h7 : lI a34 0 prot H ([vP H.length 0 3, vS x32a x32n x32c, vS none 0 0, vI 0], H1) = some (Ex.exit 0, [vS z7a z7n z7c], H2)) (h8 : cI 61 [vS z7a z7n z7c] H.length H2 = some (vS x71a x71n x71c, H3)) (h9 : cI 60 [vS x71a x71n x71c] H.length H3 = some (Value.tuple #[vS x72aa x72an x72ac, vI x72b], H4)) (h10 : 0 ≤ x72b) (h11 : x72b = x72b) (h12 : x72b ≤ 9223372036854775807) (h13 : (↑8 : Int) * x72b ≤ 2 ^ 48) (h14 : lI a34 2 prot H ([vS z7a z7n z7c, vS x72aa x72an x72ac, vI x72b, vS (some ⟨H4.length, 0, some (x72b.toNat * 1)⟩) x72b.toNat x72b.toNat, vS (some ⟨List.length (H4 ++ [AObj.cells (repCells [vI 0] x72b.toNat) 3 (repCells [vI 0] x72b.toNat).length OMode.row]), 0, some (x72b.toNat * 1)⟩) x72b.toNat x72b.toNat, vI 0], H4 ++ [AObj.cells (repCells [vI 0] x72b.toNat) 3 (repCells [vI 0] x72b.toNat).length OMode.row] ++ [AObj.cells (repCells [vI 0] x72b.toNat) 3 (repCells [vI 0] x72b.toNat).length OMode.row]) = some (Ex.exit 4, [vS z7a_2 z7n_2 z7c_2, vI z12, vS z13a z13n z13c, vS z14a z14n z14c], H5)) (h15 : lI a34 4 prot H ([vS z7a_2 z7n_2 z7c_2, vI z12, vS z13a z13n z13c, vS z14a z14n z14c, vI 0], H5) = some (Ex.ret, [vI z2, Value.bool z3, vI z4, z7, z12_2, z14], H6)) : callInf cfg 34 [.agg #[.int .i64 x0a, .slice x0ba x0bn x0bc, .slice x0ca x0cn x0cc]] prot H = some (Value.tuple { toList := [Value.int .i64 z2, Value.bool z3, Value.int .i64 z4] }, H) :=
 fn_of2 a34 [.e, .v (.agg #[vI x26a, vS x26ba x26bn x26bc, vS x26ca x26cn x26cc]), .v (vI x27), .e, .b false, .v (.agg #[vI x31a, vS x31ba x31bn x31bc, vS x31ca x31cn x31cc]), .r (vS x32a x32n x32c) H1, .lo (.exit 0, [vS z7a z7n z7c], H2), .r (vS x71a x71n x71c) H3, .r (.tuple #[vS x72aa x72an x72ac, vI x72b]) H4, .e, .e, .lo (.exit 4, [vS z7a_2 z7n_2 z7c_2, vI z12, vS z13a z13n z13c, vS z14a z14n z14c], H5), .lo (.ret, [vI z2, .bool z3, vI z4, z7, z12_2, z14], H6)] (ai h1 (ai h2 (ai h3 (ai h4 (ai h5 (ai h6 (ai h7 (ai h8 (ai h9 (ai h10 (ai h11 (ai h12 (ai h13 (ai h10 (ai h11 (ai h12 (ai h13 (ai h14 (ai h15 (Eq.refl ((Value.tuple #[vI z2, Value.bool z3, vI z4], H) : Value × AHeap))))))))))))))))))))) (by kernel_rfl) rfl
theorem f34_L0_0 (h1 : x8 < (↑x6n : Int)) (h2 : lI a34 1 prot H0 ([vP x1p x1o x1l, vS x6a x6n x6c, vS x7a x7n x7c, vI x8, vS none 0 0, vI 0], H) = some (Ex.exit 2, [vP z1p z1o z1l, vS z6a z6n z6c, vS z7a z7n z7c, vI z8, vS z9a z9n z9c], H2)) (h3 : aappend cfg.P H0.length true 86 86 (vS z7a z7n z7c) (vS (some ⟨H2.length, 0, some (1 * 1)⟩) 1 1) (H2 ++ [wo [vS z9a z9n z9c] 22]) = some (vS x68a x68n x68c, H3)) (h4 : Fit .i64 (z8 + 1)) : lpOf cfg a34 0 prot H0 ([.pointer (some ⟨x1p, x1o, some x1l⟩), .slice x6a x6n x6c, .slice x7a x7n x7c, .int .i64 x8], H) = some (Sum.inl ([Value.pointer (some ⟨z1p, z1o, some z1l⟩), Value.slice z6a z6n z6c, Value.slice x68a x68n x68c, Value.int .i64 (z8 + 1)], H3)) :=
 lp_of2 [.e, .e, .b true, .lo (.exit 2, [vP z1p z1o z1l, vS z6a z6n z6c, vS z7a z7n z7c, vI z8, vS z9a z9n z9c], H2), .e, .r (vS x68a x68n x68c) H3, .e] (ai (decide_eq_true h1) (ai h2 (ai h3 (ai h4 (Eq.refl (Sum.inl ([vP z1p z1o z1l, vS z6a z6n z6c, vS x68a x68n x68c, vI (z8 + 1)], H3) : LS ⊕ LO)))))) (by kernel_rfl)
theorem f34_L0_1 (h1 : ¬(x8 < (↑x6n : Int))) : lpOf cfg a34 0 prot H0 ([.pointer (some ⟨x1p, x1o, some x1l⟩), .slice x6a x6n x6c, .slice x7a x7n x7c, .int .i64 x8], H) = some (Sum.inr (Ex.exit 0, [Value.slice x7a x7n x7c], H)) :=
 lp_of2 [.e, .e, .b false] (ai (decide_eq_false h1) (Eq.refl (Sum.inr (Ex.exit 0, [vS x7a x7n x7c], H) : LS ⊕ LO))) (by kernel_rfl)
theorem f34_L1_0 (h1 : getCells H x1p x1l (x1o + 0) 1 = some [vI x41]) (h2 : x10 < x41) (h3 : aX 23 (vS x6a x6n x6c) (vI x8) = some (vP x46p x46o x46l)) (h4 : getCells H x46p x46l x46o 1 = some [Value.bool x47]) (h5 : x47 = true) (h6 : getCells H x1p x1l x1o 3 = some [vI x52a, vS x52ba x52bn x52bc, vS x52ca x52cn x52cc]) (h7 : cI 58 [Value.agg #[vI x52a, vS x52ba x52bn x52bc, vS x52ca x52cn x52cc], vI x8, vI x10] H0.length H = some (vI x55, H)) (h8 : aX 23 (vS x6a x6n x6c) (vI x55) = some (vP x56p x56o x56l)) (h9 : getCells H x56p x56l x56o 1 = some [Value.bool x57]) (h10 : x57 = true) (h11 : getCells H x1p x1l x1o 3 = some [vI x59a, vS x59ba x59bn x59bc, vS x59ca x59cn x59cc]) (h12 : cI 58 [Value.agg #[vI x59a, vS x59ba x59bn x59bc, vS x59ca x59cn x59cc], vI x8, vI x10] H0.length H = some (vI x62, H)) (h13 : aappend cfg.P H0.length true 22 22 (vS x9a x9n x9c) (vS (some ⟨H.length, 0, some (1 * 1)⟩) 1 1) (H ++ [wo [vI x62] 3]) = some (vS x64a x64n x64c, H2)) (h14 : Fit .i64 (x10 + 1)) : lpOf cfg a34 1 prot H0 ([.pointer (some ⟨x1p, x1o, some x1l⟩), .slice x6a x6n x6c, .slice x7a x7n x7c, .int .i64 x8, .slice x9a x9n x9c, .int .i64 x10], H) = some (Sum.inl ([Value.pointer (some ⟨x1p, x1o, some x1l⟩), Value.slice x6a x6n x6c, Value.slice x7a x7n x7c, Value.int .i64 x8, Value.slice x64a x64n x64c, Value.int .i64 (x10 + 1)], H2)) :=
 lp_of2 [.v (vI x41), .e, .b true, .b true, .b true, .v (vP x46p x46o x46l), .b true, .v (.bool x47), .b true, .b true, .v (.agg #[vI x52a, vS x52ba x52bn x52bc, vS x52ca x52cn x52cc]), .v (vI x55), .v (vP x56p x56o x56l), .v (.bool x57), .b true, .v (.agg #[vI x59a, vS x59ba x59bn x59bc, vS x59ca x59cn x59cc]), .v (vI x62), .e, .r (vS x64a x64n x64c) H2, .e] (ai h1 (ai (decide_eq_true h2) (ai (decide_eq_true h2) (ai (decide_eq_true h2) (ai h3 (ai (decide_eq_true h2) (ai h4 (ai (decide_eq_true h2) (ai h5 (ai h6 (ai h7 (ai h8 (ai h9 (ai h10 (ai h11 (ai h12 (ai h13 (ai h14 (Eq.refl (Sum.inl ([vP x1p x1o x1l, vS x6a x6n x6c, vS x7a x7n x7c, vI x8, vS x64a x64n x64c, vI (x10 + 1)], H2) : LS ⊕ LO)))))))))))))))))))) (by kernel_rfl)
theorem f34_L1_1 (h1 : getCells H x1p x1l (x1o + 0) 1 = some [vI x41]) (h2 : x10 < x41) (h3 : aX 23 (vS x6a x6n x6c) (vI x8) = some (vP x46p x46o x46l)) (h4 : getCells H x46p x46l x46o 1 = some [Value.bool x47]) (h5 : x47 = true) (h6 : getCells H x1p x1l x1o 3 = some [vI x52a, vS x52ba x52bn x52bc, vS x52ca x52cn x52cc]) (h7 : cI 58 [Value.agg #[vI x52a, vS x52ba x52bn x52bc, vS x52ca x52cn x52cc], vI x8, vI x10] H0.length H = some (vI x55, H)) (h8 : aX 23 (vS x6a x6n x6c) (vI x55) = some (vP x56p x56o x56l)) (h9 : getCells H x56p x56l x56o 1 = some [Value.bool x57]) (h10 : x57 = false) (h11 : Fit .i64 (x10 + 1)) : lpOf cfg a34 1 prot H0 ([.pointer (some ⟨x1p, x1o, some x1l⟩), .slice x6a x6n x6c, .slice x7a x7n x7c, .int .i64 x8, .slice x9a x9n x9c, .int .i64 x10], H) = some (Sum.inl ([Value.pointer (some ⟨x1p, x1o, some x1l⟩), Value.slice x6a x6n x6c, Value.slice x7a x7n x7c, Value.int .i64 x8, Value.slice x9a x9n x9c, Value.int .i64 (x10 + 1)], H)) :=
 lp_of2 [.v (vI x41), .e, .b true, .b true, .b true, .v (vP x46p x46o x46l), .b true, .v (.bool x47), .b true, .b true, .v (.agg #[vI x52a, vS x52ba x52bn x52bc, vS x52ca x52cn x52cc]), .v (vI x55), .v (vP x56p x56o x56l), .v (.bool x57), .b false, .e] (ai h1 (ai (decide_eq_true h2) (ai (decide_eq_true h2) (ai (decide_eq_true h2) (ai h3 (ai (decide_eq_true h2) (ai h4 (ai (decide_eq_true h2) (ai h5 (ai h6 (ai h7 (ai h8 (ai h9 (ai h10 (ai h11 (Eq.refl (Sum.inl ([vP x1p x1o x1l, vS x6a x6n x6c, vS x7a x7n x7c, vI x8, vS x9a x9n x9c, vI (x10 + 1)], H) : LS ⊕ LO))))))))))))))))) (by kernel_rfl)
theorem f34_L1_2 (h1 : getCells H x1p x1l (x1o + 0) 1 = some [vI x41]) (h2 : x10 < x41) (h3 : aX 23 (vS x6a x6n x6c) (vI x8) = some (vP x46p x46o x46l)) (h4 : getCells H x46p x46l x46o 1 = some [Value.bool x47]) (h5 : x47 = false) : lpOf cfg a34 1 prot H0 ([.pointer (some ⟨x1p, x1o, some x1l⟩), .slice x6a x6n x6c, .slice x7a x7n x7c, .int .i64 x8, .slice x9a x9n x9c, .int .i64 x10], H) = some (Sum.inr (Ex.exit 2, [Value.pointer (some ⟨x1p, x1o, some x1l⟩), Value.slice x6a x6n x6c, Value.slice x7a x7n x7c, Value.int .i64 x8, Value.slice x9a x9n x9c], H)) :=
 lp_of2 [.v (vI x41), .e, .b true, .b true, .b true, .v (vP x46p x46o x46l), .b true, .v (.bool x47), .b true, .b false] (ai h1 (ai (decide_eq_true h2) (ai (decide_eq_true h2) (ai (decide_eq_true h2) (ai h3 (ai (decide_eq_true h2) (ai h4 (ai (decide_eq_true h2) (ai h5 (Eq.refl (Sum.inr (Ex.exit 2, [vP x1p x1o x1l, vS x6a x6n x6c, vS x7a x7n x7c, vI x8, vS x9a x9n x9c], H) : LS ⊕ LO))))))))))) (by kernel_rfl)
theorem f34_L1_3 (h1 : getCells H x1p x1l (x1o + 0) 1 = some [vI x41]) (h2 : ¬(x10 < x41)) : lpOf cfg a34 1 prot H0 ([.pointer (some ⟨x1p, x1o, some x1l⟩), .slice x6a x6n x6c, .slice x7a x7n x7c, .int .i64 x8, .slice x9a x9n x9c, .int .i64 x10], H) = some (Sum.inr (Ex.exit 2, [Value.pointer (some ⟨x1p, x1o, some x1l⟩), Value.slice x6a x6n x6c, Value.slice x7a x7n x7c, Value.int .i64 x8, Value.slice x9a x9n x9c], H)) :=
 lp_of2 [.v (vI x41), .e, .b false, .b false, .b false, .b false, .b false, .b false] (ai h1 (ai (decide_eq_false h2) (ai (decide_eq_false h2) (ai (decide_eq_false h2) (ai (decide_eq_false h2) (ai (decide_eq_false h2) (ai (Eq.refl false) (Eq.refl (Sum.inr (Ex.exit 2, [vP x1p x1o x1l, vS x6a x6n x6c, vS x7a x7n x7c, vI x8, vS x9a x9n x9c], H) : LS ⊕ LO))))))))) (by kernel_rfl)
theorem f34_L2_0 (h1 : x15 < (↑x7n : Int)) (h2 : aX 22 (vS x11a x11n x11c) (vI x15) = some (vP x88p x88o x88l)) (h3 : getCells H x88p x88l x88o 1 = some [vI x89]) (h4 : aX 22 (vS x13a x13n x13c) (vI x89) = some (vP x90p x90o x90l)) (h5 : getCells H x90p x90l x90o 1 = some [vI x91]) (h6 : Fit .i64 (x91 + 1)) (h7 : aX 22 (vS x13a x13n x13c) (vI x89) = some (vP x93p x93o x93l)) (h8 : 1 = 1) (h9 : setCells H H0.length x93p x93l x93o [vI (x91 + 1)] = some H2) (h10 : lI a34 3 prot H0 ([vS x7a x7n x7c, vS x11a x11n x11c, vI x12, vS x13a x13n x13c, vS x14a x14n x14c, vI x15, vI 0], H2) = some (Ex.exit 6, [vS z7a z7n z7c, vS z11a z11n z11c, vI z12, vS z13a z13n z13c, vS z14a z14n z14c, vI z15], H3)) (h11 : Fit .i64 (z15 + 1)) : lpOf cfg a34 2 prot H0 ([.slice x7a x7n x7c, .slice x11a x11n x11c, .int .i64 x12, .slice x13a x13n x13c, .slice x14a x14n x14c, .int .i64 x15], H) = some (Sum.inl ([Value.slice z7a z7n z7c, Value.slice z11a z11n z11c, Value.int .i64 z12, Value.slice z13a z13n z13c, Value.slice z14a z14n z14c, Value.int .i64 (z15 + 1)], H3)) :=
 lp_of2 [.e, .e, .b true, .v (vP x88p x88o x88l), .v (vI x89), .v (vP x90p x90o x90l), .v (vI x91), .e, .v (vP x93p x93o x93l), .h H2, .lo (.exit 6, [vS z7a z7n z7c, vS z11a z11n z11c, vI z12, vS z13a z13n z13c, vS z14a z14n z14c, vI z15], H3), .e] (ai (decide_eq_true h1) (ai h2 (ai h3 (ai h4 (ai h5 (ai h6 (ai h7 (ai h8 (ai h9 (ai h10 (ai h11 (Eq.refl (Sum.inl ([vS z7a z7n z7c, vS z11a z11n z11c, vI z12, vS z13a z13n z13c, vS z14a z14n z14c, vI (z15 + 1)], H3) : LS ⊕ LO))))))))))))) (by kernel_rfl)
theorem f34_L2_1 (h1 : ¬(x15 < (↑x7n : Int))) : lpOf cfg a34 2 prot H0 ([.slice x7a x7n x7c, .slice x11a x11n x11c, .int .i64 x12, .slice x13a x13n x13c, .slice x14a x14n x14c, .int .i64 x15], H) = some (Sum.inr (Ex.exit 4, [Value.slice x7a x7n x7c, Value.int .i64 x12, Value.slice x13a x13n x13c, Value.slice x14a x14n x14c], H)) :=
 lp_of2 [.e, .e, .b false] (ai (decide_eq_false h1) (Eq.refl (Sum.inr (Ex.exit 4, [vS x7a x7n x7c, vI x12, vS x13a x13n x13c, vS x14a x14n x14c], H) : LS ⊕ LO))) (by kernel_rfl)
theorem f34_L3_0 (h1 : aX 86 (vS x7a x7n x7c) (vI x15) = some (vP x97p x97o x97l)) (h2 : getCells H x97p x97l x97o 1 = some [vS x98a x98n x98c]) (h3 : x16 < (↑x98n : Int)) (h4 : aX 86 (vS x7a x7n x7c) (vI x15) = some (vP x106p x106o x106l)) (h5 : getCells H x106p x106l x106o 1 = some [vS x107a x107n x107c]) (h6 : aX 22 (vS x107a x107n x107c) (vI x16) = some (vP x109p x109o x109l)) (h7 : getCells H x109p x109l x109o 1 = some [vI x110]) (h8 : aX 22 (vS x11a x11n x11c) (vI x110) = some (vP x111p x111o x111l)) (h9 : getCells H x111p x111l x111o 1 = some [vI x112]) (h10 : aX 22 (vS x11a x11n x11c) (vI x15) = some (vP x115p x115o x115l)) (h11 : getCells H x115p x115l x115o 1 = some [vI x116]) (h12 : (x112 == x116) = true) (h13 : aX 22 (vS x11a x11n x11c) (vI x15) = some (vP x121p x121o x121l)) (h14 : getCells H x121p x121l x121o 1 = some [vI x122]) (h15 : aX 22 (vS x14a x14n x14c) (vI x122) = some (vP x123p x123o x123l)) (h16 : getCells H x123p x123l x123o 1 = some [vI x124]) (h17 : Fit .i64 (x124 + 1)) (h18 : aX 22 (vS x14a x14n x14c) (vI x122) = some (vP x126p x126o x126l)) (h19 : 1 = 1) (h20 : setCells H H0.length x126p x126l x126o [vI (x124 + 1)] = some H2) (h21 : Fit .i64 (x16 + 1)) : lpOf cfg a34 3 prot H0 ([.slice x7a x7n x7c, .slice x11a x11n x11c, .int .i64 x12, .slice x13a x13n x13c, .slice x14a x14n x14c, .int .i64 x15, .int .i64 x16], H) = some (Sum.inl ([Value.slice x7a x7n x7c, Value.slice x11a x11n x11c, Value.int .i64 x12, Value.slice x13a x13n x13c, Value.slice x14a x14n x14c, Value.int .i64 x15, Value.int .i64 (x16 + 1)], H2)) :=
 lp_of2 [.v (vP x97p x97o x97l), .v (vS x98a x98n x98c), .e, .e, .b true, .v (vP x106p x106o x106l), .v (vS x107a x107n x107c), .v (vP x109p x109o x109l), .v (vI x110), .v (vP x111p x111o x111l), .v (vI x112), .v (vP x115p x115o x115l), .v (vI x116), .e, .b true, .v (vP x121p x121o x121l), .v (vI x122), .v (vP x123p x123o x123l), .v (vI x124), .e, .v (vP x126p x126o x126l), .h H2, .e] (ai h1 (ai h2 (ai (decide_eq_true h3) (ai h4 (ai h5 (ai h6 (ai h7 (ai h8 (ai h9 (ai h10 (ai h11 (ai h12 (ai h13 (ai h14 (ai h15 (ai h16 (ai h17 (ai h18 (ai h19 (ai h20 (ai h21 (Eq.refl (Sum.inl ([vS x7a x7n x7c, vS x11a x11n x11c, vI x12, vS x13a x13n x13c, vS x14a x14n x14c, vI x15, vI (x16 + 1)], H2) : LS ⊕ LO))))))))))))))))))))))) (by kernel_rfl)
theorem f34_L3_1 (h1 : aX 86 (vS x7a x7n x7c) (vI x15) = some (vP x97p x97o x97l)) (h2 : getCells H x97p x97l x97o 1 = some [vS x98a x98n x98c]) (h3 : x16 < (↑x98n : Int)) (h4 : aX 86 (vS x7a x7n x7c) (vI x15) = some (vP x106p x106o x106l)) (h5 : getCells H x106p x106l x106o 1 = some [vS x107a x107n x107c]) (h6 : aX 22 (vS x107a x107n x107c) (vI x16) = some (vP x109p x109o x109l)) (h7 : getCells H x109p x109l x109o 1 = some [vI x110]) (h8 : aX 22 (vS x11a x11n x11c) (vI x110) = some (vP x111p x111o x111l)) (h9 : getCells H x111p x111l x111o 1 = some [vI x112]) (h10 : aX 22 (vS x11a x11n x11c) (vI x15) = some (vP x115p x115o x115l)) (h11 : getCells H x115p x115l x115o 1 = some [vI x116]) (h12 : (x112 == x116) = false) (h13 : Fit .i64 (x16 + 1)) : lpOf cfg a34 3 prot H0 ([.slice x7a x7n x7c, .slice x11a x11n x11c, .int .i64 x12, .slice x13a x13n x13c, .slice x14a x14n x14c, .int .i64 x15, .int .i64 x16], H) = some (Sum.inl ([Value.slice x7a x7n x7c, Value.slice x11a x11n x11c, Value.int .i64 x12, Value.slice x13a x13n x13c, Value.slice x14a x14n x14c, Value.int .i64 x15, Value.int .i64 (x16 + 1)], H)) :=
 lp_of2 [.v (vP x97p x97o x97l), .v (vS x98a x98n x98c), .e, .e, .b true, .v (vP x106p x106o x106l), .v (vS x107a x107n x107c), .v (vP x109p x109o x109l), .v (vI x110), .v (vP x111p x111o x111l), .v (vI x112), .v (vP x115p x115o x115l), .v (vI x116), .e, .b false, .e] (ai h1 (ai h2 (ai (decide_eq_true h3) (ai h4 (ai h5 (ai h6 (ai h7 (ai h8 (ai h9 (ai h10 (ai h11 (ai h12 (ai h13 (Eq.refl (Sum.inl ([vS x7a x7n x7c, vS x11a x11n x11c, vI x12, vS x13a x13n x13c, vS x14a x14n x14c, vI x15, vI (x16 + 1)], H) : LS ⊕ LO))))))))))))))) (by kernel_rfl)
theorem f34_L3_2 (h1 : aX 86 (vS x7a x7n x7c) (vI x15) = some (vP x97p x97o x97l)) (h2 : getCells H x97p x97l x97o 1 = some [vS x98a x98n x98c]) (h3 : ¬(x16 < (↑x98n : Int))) : lpOf cfg a34 3 prot H0 ([.slice x7a x7n x7c, .slice x11a x11n x11c, .int .i64 x12, .slice x13a x13n x13c, .slice x14a x14n x14c, .int .i64 x15, .int .i64 x16], H) = some (Sum.inr (Ex.exit 6, [Value.slice x7a x7n x7c, Value.slice x11a x11n x11c, Value.int .i64 x12, Value.slice x13a x13n x13c, Value.slice x14a x14n x14c, Value.int .i64 x15], H)) :=
 lp_of2 [.v (vP x97p x97o x97l), .v (vS x98a x98n x98c), .e, .e, .b false] (ai h1 (ai h2 (ai (decide_eq_false h3) (Eq.refl (Sum.inr (Ex.exit 6, [vS x7a x7n x7c, vS x11a x11n x11c, vI x12, vS x13a x13n x13c, vS x14a x14n x14c, vI x15], H) : LS ⊕ LO))))) (by kernel_rfl)
theorem f34_L4_0 (h1 : x17 < x12) (h2 : aX 22 (vS x14a x14n x14c) (vI x17) = some (vP x134p x134o x134l)) (h3 : getCells H x134p x134l x134o 1 = some [vI x135]) (h4 : aX 22 (vS x13a x13n x13c) (vI x17) = some (vP x138p x138o x138l)) (h5 : getCells H x138p x138l x138o 1 = some [vI x139]) (h6 : x135 > x139) : lpOf cfg a34 4 prot H0 ([.slice x7a x7n x7c, .int .i64 x12, .slice x13a x13n x13c, .slice x14a x14n x14c, .int .i64 x17], H) = some (Sum.inr (Ex.ret, [Value.int .i64 0, Value.bool false, Value.int .i64 0, Value.slice x7a x7n x7c, Value.int .i64 x12, Value.slice x14a x14n x14c], H)) :=
 lp_of2 [.e, .b true, .v (vP x134p x134o x134l), .v (vI x135), .v (vP x138p x138o x138l), .v (vI x139), .e, .b true] (ai (decide_eq_true h1) (ai h2 (ai h3 (ai h4 (ai h5 (ai (decide_eq_true h6) (Eq.refl (Sum.inr (Ex.ret, [vI 0, Value.bool false, vI 0, vS x7a x7n x7c, vI x12, vS x14a x14n x14c], H) : LS ⊕ LO)))))))) (by kernel_rfl)
theorem f34_L4_1 (h1 : x17 < x12) (h2 : aX 22 (vS x14a x14n x14c) (vI x17) = some (vP x134p x134o x134l)) (h3 : getCells H x134p x134l x134o 1 = some [vI x135]) (h4 : aX 22 (vS x13a x13n x13c) (vI x17) = some (vP x138p x138o x138l)) (h5 : getCells H x138p x138l x138o 1 = some [vI x139]) (h6 : ¬(x135 > x139)) (h7 : Fit .i64 (x17 + 1)) : lpOf cfg a34 4 prot H0 ([.slice x7a x7n x7c, .int .i64 x12, .slice x13a x13n x13c, .slice x14a x14n x14c, .int .i64 x17], H) = some (Sum.inl ([Value.slice x7a x7n x7c, Value.int .i64 x12, Value.slice x13a x13n x13c, Value.slice x14a x14n x14c, Value.int .i64 (x17 + 1)], H)) :=
 lp_of2 [.e, .b true, .v (vP x134p x134o x134l), .v (vI x135), .v (vP x138p x138o x138l), .v (vI x139), .e, .b false, .e] (ai (decide_eq_true h1) (ai h2 (ai h3 (ai h4 (ai h5 (ai (decide_eq_false h6) (ai h7 (Eq.refl (Sum.inl ([vS x7a x7n x7c, vI x12, vS x13a x13n x13c, vS x14a x14n x14c, vI (x17 + 1)], H) : LS ⊕ LO))))))))) (by kernel_rfl)
theorem f34_L4_2 (h1 : ¬(x17 < x12)) : lpOf cfg a34 4 prot H0 ([.slice x7a x7n x7c, .int .i64 x12, .slice x13a x13n x13c, .slice x14a x14n x14c, .int .i64 x17], H) = some (Sum.inr (Ex.exit 8, [Value.tuple { toList := [] }, Value.tuple { toList := [] }, Value.tuple { toList := [] }, Value.slice x7a x7n x7c, Value.int .i64 x12, Value.slice x14a x14n x14c], H)) :=
 lp_of2 [.e, .b false] (ai (decide_eq_false h1) (Eq.refl (Sum.inr (Ex.exit 8, [Value.tuple #[], Value.tuple #[], Value.tuple #[], vS x7a x7n x7c, vI x12, vS x14a x14n x14c], H) : LS ⊕ LO))) (by kernel_rfl)
theorem f34_L5_0 (h1 : x22 ≤ x12) (h2 : lI a34 6 prot H0 ([vI x12, vS x14a x14n x14c, vS x18a x18n x18c, vS x20a x20n x20c, vI x21, vI x22, vI 0], H) = some (Ex.exit 12, [vI z12, vS z14a z14n z14c, vS z18a z18n z18c, vS z20a z20n z20c, vI z21, vI z22], H2)) (h3 : Fit .i64 (z22 + 1)) : lpOf cfg a34 5 prot H0 ([.int .i64 x12, .slice x14a x14n x14c, .slice x18a x18n x18c, .slice x20a x20n x20c, .int .i64 x21, .int .i64 x22], H) = some (Sum.inl ([Value.int .i64 z12, Value.slice z14a z14n z14c, Value.slice z18a z18n z18c, Value.slice z20a z20n z20c, Value.int .i64 z21, Value.int .i64 (z22 + 1)], H2)) :=
 lp_of2 [.e, .b true, .lo (.exit 12, [vI z12, vS z14a z14n z14c, vS z18a z18n z18c, vS z20a z20n z20c, vI z21, vI z22], H2), .e] (ai (decide_eq_true h1) (ai h2 (ai h3 (Eq.refl (Sum.inl ([vI z12, vS z14a z14n z14c, vS z18a z18n z18c, vS z20a z20n z20c, vI z21, vI (z22 + 1)], H2) : LS ⊕ LO))))) (by kernel_rfl)
theorem f34_L5_1 (h1 : ¬(x22 ≤ x12)) : lpOf cfg a34 5 prot H0 ([.int .i64 x12, .slice x14a x14n x14c, .slice x18a x18n x18c, .slice x20a x20n x20c, .int .i64 x21, .int .i64 x22], H) = some (Sum.inr (Ex.exit 10, [Value.int .i64 x21], H)) :=
 lp_of2 [.e, .b false] (ai (decide_eq_false h1) (Eq.refl (Sum.inr (Ex.exit 10, [vI x21], H) : LS ⊕ LO))) (by kernel_rfl)
theorem f34_L6_0 (h1 : x23 < x12) (h2 : aX 22 (vS x14a x14n x14c) (vI x23) = some (vP x160p x160o x160l)) (h3 : getCells H x160p x160l x160o 1 = some [vI x161]) (h4 : aX 22 (vS x20a x20n x20c) (vI x23) = some (vP x167p x167o x167l)) (h5 : getCells H x167p x167l x167o 1 = some [vI x168]) (h6 : aX 22 (vS x20a x20n x20c) (vI x23) = some (vP x171p x171o x171l)) (h7 : 1 = 1) (h8 : setCells H H0.length x171p x171l x171o [vI (if (if x161 < 1 then x161 else 1) > x168 then if x161 < 1 then x161 else 1 else x168)] = some H2) (h9 : lI a34 7 prot H0 ([vI x12, vS x14a x14n x14c, vS x18a x18n x18c, vS x20a x20n x20c, vI x21, vI x22, vI x23, vI (if x161 < 1 then x161 else 1), vI 0], H2) = some (Ex.exit 14, [vI z12, vS z14a z14n z14c, vS z18a z18n z18c, vS z20a z20n z20c, vI z21, vI z22, vI z23], H3)) (h10 : aX 22 (vS z20a z20n z20c) (vI z23) = some (vP x205p x205o x205l)) (h11 : getCells H3 x205p x205l x205o 1 = some [vI x206]) (h12 : Fit .i64 (z23 + 1)) : lpOf cfg a34 6 prot H0 ([.int .i64 x12, .slice x14a x14n x14c, .slice x18a x18n x18c, .slice x20a x20n x20c, .int .i64 x21, .int .i64 x22, .int .i64 x23], H) = some (Sum.inl ([Value.int .i64 z12, Value.slice z14a z14n z14c, Value.slice z18a z18n z18c, Value.slice z20a z20n z20c, Value.int .i64 (if x206 > z21 then x206 else z21), Value.int .i64 z22, Value.int .i64 (z23 + 1)], H3)) :=
 lp_of2 [.e, .b true, .v (vP x160p x160o x160l), .v (vI x161), .e, .v (vP x167p x167o x167l), .v (vI x168), .e, .v (vP x171p x171o x171l), .h H2, .lo (.exit 14, [vI z12, vS z14a z14n z14c, vS z18a z18n z18c, vS z20a z20n z20c, vI z21, vI z22, vI z23], H3), .v (vP x205p x205o x205l), .v (vI x206), .e, .e] (ai (decide_eq_true h1) (ai h2 (ai h3 (ai h4 (ai h5 (ai h6 (ai h7 (ai h8 (ai h9 (ai h10 (ai h11 (ai h12 (Eq.refl (Sum.inl ([vI z12, vS z14a z14n z14c, vS z18a z18n z18c, vS z20a z20n z20c, vI (if x206 > z21 then x206 else z21), vI z22, vI (z23 + 1)], H3) : LS ⊕ LO)))))))))))))) (by kernel_rfl)
theorem f34_L6_1 (h1 : ¬(x23 < x12)) : lpOf cfg a34 6 prot H0 ([.int .i64 x12, .slice x14a x14n x14c, .slice x18a x18n x18c, .slice x20a x20n x20c, .int .i64 x21, .int .i64 x22, .int .i64 x23], H) = some (Sum.inr (Ex.exit 12, [Value.int .i64 x12, Value.slice x14a x14n x14c, Value.slice x18a x18n x18c, Value.slice x20a x20n x20c, Value.int .i64 x21, Value.int .i64 x22], H)) :=
 lp_of2 [.e, .b false] (ai (decide_eq_false h1) (Eq.refl (Sum.inr (Ex.exit 12, [vI x12, vS x14a x14n x14c, vS x18a x18n x18c, vS x20a x20n x20c, vI x21, vI x22], H) : LS ⊕ LO))) (by kernel_rfl)
theorem f34_L7_0 (h1 : x25 < x12) (h2 : (x25 != x23) = true) (h3 : aX 93 (vS x18a x18n x18c) (vI x23) = some (vP x183p x183o x183l)) (h4 : getCells H x183p x183l x183o 8 = some x184.toList) (h5 : cI 63 [Value.agg x184, vI x25] H0.length H = some (Value.bool x186, H)) (h6 : x186 = true) (h7 : aX 22 (vS x20a x20n x20c) (vI x23) = some (vP x192p x192o x192l)) (h8 : getCells H x192p x192l x192o 1 = some [vI x193]) (h9 : aX 22 (vS x20a x20n x20c) (vI x25) = some (vP x197p x197o x197l)) (h10 : getCells H x197p x197l x197o 1 = some [vI x198]) (h11 : Fit .i64 (x24 + x198)) (h12 : aX 22 (vS x20a x20n x20c) (vI x23) = some (vP x201p x201o x201l)) (h13 : 1 = 1) (h14 : setCells H H0.length x201p x201l x201o [vI (if x24 + x198 > x193 then x24 + x198 else x193)] = some H2) (h15 : Fit .i64 (x25 + 1)) : lpOf cfg a34 7 prot H0 ([.int .i64 x12, .slice x14a x14n x14c, .slice x18a x18n x18c, .slice x20a x20n x20c, .int .i64 x21, .int .i64 x22, .int .i64 x23, .int .i64 x24, .int .i64 x25], H) = some (Sum.inl ([Value.int .i64 x12, Value.slice x14a x14n x14c, Value.slice x18a x18n x18c, Value.slice x20a x20n x20c, Value.int .i64 x21, Value.int .i64 x22, Value.int .i64 x23, Value.int .i64 x24, Value.int .i64 (x25 + 1)], H2)) :=
 lp_of2 [.e, .b true, .e, .b true, .b true, .b true, .v (vP x183p x183o x183l), .b true, .v (.agg x184), .b true, .b true, .v (.bool x186), .b true, .b true, .v (vP x192p x192o x192l), .v (vI x193), .v (vP x197p x197o x197l), .v (vI x198), .e, .e, .v (vP x201p x201o x201l), .h H2, .e] (ai (decide_eq_true h1) (ai h2 (ai h2 (ai h2 (ai h3 (ai h2 (ai h4 (ai h2 (ai h2 (ai h5 (ai h2 (ai h6 (ai h7 (ai h8 (ai h9 (ai h10 (ai h11 (ai h12 (ai h13 (ai h14 (ai h15 (Eq.refl (Sum.inl ([vI x12, vS x14a x14n x14c, vS x18a x18n x18c, vS x20a x20n x20c, vI x21, vI x22, vI x23, vI x24, vI (x25 + 1)], H2) : LS ⊕ LO))))))))))))))))))))))) (by kernel_rfl)
theorem f34_L7_1 (h1 : x25 < x12) (h2 : (x25 != x23) = true) (h3 : aX 93 (vS x18a x18n x18c) (vI x23) = some (vP x183p x183o x183l)) (h4 : getCells H x183p x183l x183o 8 = some x184.toList) (h5 : cI 63 [Value.agg x184, vI x25] H0.length H = some (Value.bool x186, H)) (h6 : x186 = false) (h7 : Fit .i64 (x25 + 1)) : lpOf cfg a34 7 prot H0 ([.int .i64 x12, .slice x14a x14n x14c, .slice x18a x18n x18c, .slice x20a x20n x20c, .int .i64 x21, .int .i64 x22, .int .i64 x23, .int .i64 x24, .int .i64 x25], H) = some (Sum.inl ([Value.int .i64 x12, Value.slice x14a x14n x14c, Value.slice x18a x18n x18c, Value.slice x20a x20n x20c, Value.int .i64 x21, Value.int .i64 x22, Value.int .i64 x23, Value.int .i64 x24, Value.int .i64 (x25 + 1)], H)) :=
 lp_of2 [.e, .b true, .e, .b true, .b true, .b true, .v (vP x183p x183o x183l), .b true, .v (.agg x184), .b true, .b true, .v (.bool x186), .b true, .b false, .e] (ai (decide_eq_true h1) (ai h2 (ai h2 (ai h2 (ai h3 (ai h2 (ai h4 (ai h2 (ai h2 (ai h5 (ai h2 (ai h6 (ai h7 (Eq.refl (Sum.inl ([vI x12, vS x14a x14n x14c, vS x18a x18n x18c, vS x20a x20n x20c, vI x21, vI x22, vI x23, vI x24, vI (x25 + 1)], H) : LS ⊕ LO))))))))))))))) (by kernel_rfl)
theorem f34_L7_2 (h1 : x25 < x12) (h2 : (x25 != x23) = false) (h3 : Fit .i64 (x25 + 1)) : lpOf cfg a34 7 prot H0 ([.int .i64 x12, .slice x14a x14n x14c, .slice x18a x18n x18c, .slice x20a x20n x20c, .int .i64 x21, .int .i64 x22, .int .i64 x23, .int .i64 x24, .int .i64 x25], H) = some (Sum.inl ([Value.int .i64 x12, Value.slice x14a x14n x14c, Value.slice x18a x18n x18c, Value.slice x20a x20n x20c, Value.int .i64 x21, Value.int .i64 x22, Value.int .i64 x23, Value.int .i64 x24, Value.int .i64 (x25 + 1)], H)) :=
 lp_of2 [.e, .b true, .e, .b false, .b false, .b false, .b false, .b false, .b false, .b false, .b false, .e] (ai (decide_eq_true h1) (ai h2 (ai h2 (ai h2 (ai h2 (ai h2 (ai h2 (ai h2 (ai (Eq.refl false) (ai h3 (Eq.refl (Sum.inl ([vI x12, vS x14a x14n x14c, vS x18a x18n x18c, vS x20a x20n x20c, vI x21, vI x22, vI x23, vI x24, vI (x25 + 1)], H) : LS ⊕ LO)))))))))))) (by kernel_rfl)
theorem f34_L7_3 (h1 : ¬(x25 < x12)) : lpOf cfg a34 7 prot H0 ([.int .i64 x12, .slice x14a x14n x14c, .slice x18a x18n x18c, .slice x20a x20n x20c, .int .i64 x21, .int .i64 x22, .int .i64 x23, .int .i64 x24, .int .i64 x25], H) = some (Sum.inr (Ex.exit 14, [Value.int .i64 x12, Value.slice x14a x14n x14c, Value.slice x18a x18n x18c, Value.slice x20a x20n x20c, Value.int .i64 x21, Value.int .i64 x22, Value.int .i64 x23], H)) :=
 lp_of2 [.e, .b false] (ai (decide_eq_false h1) (Eq.refl (Sum.inr (Ex.exit 14, [vI x12, vS x14a x14n x14c, vS x18a x18n x18c, vS x20a x20n x20c, vI x21, vI x22, vI x23], H) : LS ⊕ LO))) (by kernel_rfl)
end
end Go.Proofs.Ythjkodbinkiifaa.Am23
namespace Go.Proofs.Ythjkodbinkiifaa.Am23
open Go Go.Proofs.Ythjkodbinkiifaa.Am
open Am23g (addE Out Mine out_start gc_mine Gr nl Rch RQ sc comp Lc abv Abv abv_iff chk Short Lc_lt comp_n)
/-! The document's Growth: its rows. -/
def preL (k : Nat) (xs : List Int) (U : Nat → Bool) (s i : Nat) : List Nat := ((List.range i).map (tgt k xs s)).filter U
theorem preL_succ (k : Nat) (xs : List Int) (U : Nat → Bool) (s i : Nat) : preL k xs U s (i + 1) = preL k xs U s i ++ (if U (tgt k xs s i) then [tgt k xs s i] else []) := by
 unfold preL
 rw [List.range_succ, List.map_append, List.filter_append, List.map_cons, List.map_nil, List.filter_cons, List.filter_nil]
theorem preL_len (k : Nat) (xs : List Int) (U : Nat → Bool) (s i : Nat) : (preL k xs U s i).length ≤ i := by
 unfold preL
 have := List.length_filter_le U ((List.range i).map (tgt k xs s))
 simpa using this
theorem nl_snoc (l : List Nat) (v : Nat) : il (nl l) ++ [Value.int .i64 ((v : Nat) : Int)] = il (nl (l ++ [v])) := by simp [il, nl]
theorem loop34b {k : Nat} {xs : List Int} {bs : List Bool} (hG : Good k xs bs) {H0 Hs : AHeap} {prot s : Nat} {vN vA x6 x7 : Value} (hs : s < bs.length) (hU : uB k xs bs s = true) (hb : Hs[H0.length]? = some (bx k vN vA)) (hA : IsA Hs xs bs vN vA) (h6 : Rd Hs 4 1 x6 bs.length (bll (useL k xs bs))) (h7 : ∃ a n c, x7 = .slice a n c) (h0 : H0.length ≤ Hs.length) : ∀ (d i : Nat) (x9 : Value) (o9 : Option Nat) (H : AHeap), i + d = k → Stay none Hs H → Own H 3 1 x9 o9 (preL k xs (uB k xs bs) s i).length (il (nl (preL k xs (uB k xs bs) s i))) → (∀ id, o9 = some id → Hs.length ≤ id) →
  ∃ x' o' H', lpInf (lpOf cfg a34 1 prot H0) ([.pointer (some ⟨H0.length, 0, some 3⟩), x6, x7, .int .i64 s, x9, .int .i64 i], H) = some (.exit 2, [.pointer (some ⟨H0.length, 0, some 3⟩), x6, x7, .int .i64 s, x'], H') ∧ Own H' 3 1 x' o' (inL k xs (uB k xs bs) s).length (il (nl (inL k xs (uB k xs bs) s))) ∧ (∀ id, o' = some id → Hs.length ≤ id) ∧ Stay none Hs H'
 | 0, i, x9, o9, H, hi, hst, h9, ho => by
  have : i = k := by omega
  subst this
  have e : inL i xs (uB i xs bs) s = preL i xs (uB i xs bs) s i := by unfold inL preL; rw [if_pos hU]
  rw [e]
  refine ⟨x9, o9, H, ?_, h9, ho, hst⟩
  have hbH : H[H0.length]? = some (bx i vN vA) := by rw [hst.2 _ (List.getElem?_eq_some_iff.1 hb).1 (by simp)]; exact hb
  obtain ⟨g0, _⟩ := fld3 hbH
  obtain ⟨_, _, rfl⟩ := hA.n.len
  obtain ⟨_, _, rfl⟩ := hA.a.len
  obtain ⟨_, _, rfl⟩ := h6.len
  obtain ⟨_, _, rfl⟩ := h9.len
  obtain ⟨_, _, _, rfl⟩ := h7
  exact lp_last (f34_L1_3 g0 (by omega))
 | d + 1, i, x9, o9, H, hi, hst, h9, ho => by
  have hik : i < k := by omega
  have hk8 := hG.k8
  obtain ⟨_, htl, _⟩ := tgt_lt hG hs hik
  have hbH : H[H0.length]? = some (bx k vN vA) := by rw [hst.2 _ (List.getElem?_eq_some_iff.1 hb).1 (by simp)]; exact hb
  obtain ⟨g0, _, _, g3⟩ := fld3 hbH
  have h58 := c58 hG hs hik H0.length H (hA.stay hst).n (by obtain ⟨a, c, e⟩ := hA.a.len; exact ⟨a, _, c, e⟩)
  obtain ⟨_, _, u1, u2⟩ := rd_at T23 (h6.stay hst) (use_get hs)
  obtain ⟨_, _, v1, v2⟩ := rd_at T23 (h6.stay hst) (use_get htl)
  rw [hU] at u2
  have fi : Fit .i64 ((i : Int) + 1) := fit64 (by omega) (by omega)
  have hpl := preL_len k xs (uB k xs bs) s i
  have hps := preL_succ k xs (uB k xs bs) s i
  cases hut : uB k xs bs (tgt k xs s i) with
  | false =>
   rw [hut, if_neg (by simp), List.append_nil] at hps
   rw [hut] at v2
   rw [← hps] at h9
   obtain ⟨x', o', H', z1, z2⟩ := loop34b hG (prot := prot) hs hU hb hA h6 h7 h0 d (i + 1) x9 o9 H (by omega) hst h9 ho
   refine ⟨x', o', H', ?_, z2⟩
   obtain ⟨_, _, rfl⟩ := hA.n.len
   obtain ⟨_, _, rfl⟩ := hA.a.len
   obtain ⟨_, _, rfl⟩ := h6.len
   obtain ⟨_, _, rfl⟩ := h9.len
   obtain ⟨_, _, _, rfl⟩ := h7
   exact lp_next (f34_L1_1 g0 (by omega) u1 u2 rfl g3 h58 v1 v2 rfl fi) z1
  | true =>
   rw [hut, if_pos rfl] at hps
   rw [hut] at v2
   obtain ⟨a', c', o', H2, q1, q2, q3, q4, q5, q6⟩ := own_app T22 h9 (ecs := [.int .i64 ((tgt k xs s i : Nat) : Int)]) rfl rfl (prot := H0.length) (room := true) (fun id e => by have := ho id e; omega) (by have := hst.1; omega) (by omega) (L := 1 * 1) rfl (el := [Value.int .i64 ((tgt k xs s i : Nat) : Int)].length) rfl
   rw [nl_snoc, ← hps] at q2
   have hlen : (preL k xs (uB k xs bs) s i).length + 1 = (preL k xs (uB k xs bs) s (i + 1)).length := by rw [hps]; simp
   rw [hlen] at q1 q2
   have ho' : ∀ id, some o' = some id → Hs.length ≤ id := fun id e => by
    cases e
    cases h : o9 with
    | none => have := q5 h; have := hst.1; omega
    | some a => have := q6 a h; have := ho a h; omega
   obtain ⟨x', o2, H', z1, z2⟩ := loop34b hG (prot := prot) hs hU hb hA h6 h7 h0 d (i + 1) _ _ H2 (by omega) (hst.over q3 ho) q2 ho'
   refine ⟨x', o2, H', ?_, z2⟩
   obtain ⟨_, _, rfl⟩ := hA.n.len
   obtain ⟨_, _, rfl⟩ := hA.a.len
   obtain ⟨_, _, rfl⟩ := h6.len
   obtain ⟨_, _, rfl⟩ := h9.len
   obtain ⟨_, _, _, rfl⟩ := h7
   exact lp_next (f34_L1_0 g0 (by omega) u1 u2 rfl g3 h58 v1 v2 rfl g3 h58 q1 fi) z1
/-- One row, of whatever state. -/
theorem loop34b' {k : Nat} {xs : List Int} {bs : List Bool} (hG : Good k xs bs) {H0 Hs : AHeap} {prot s : Nat} {vN vA x6 x7 : Value} (hs : s < bs.length) (hb : Hs[H0.length]? = some (bx k vN vA)) (hA : IsA Hs xs bs vN vA) (h6 : Rd Hs 4 1 x6 bs.length (bll (useL k xs bs))) (h7 : ∃ a n c, x7 = .slice a n c) (h0 : H0.length ≤ Hs.length) :
  ∃ x' o' H', lpInf (lpOf cfg a34 1 prot H0) ([.pointer (some ⟨H0.length, 0, some 3⟩), x6, x7, .int .i64 s, .slice none 0 0, .int .i64 0], Hs) = some (.exit 2, [.pointer (some ⟨H0.length, 0, some 3⟩), x6, x7, .int .i64 s, x'], H') ∧ Own H' 3 1 x' o' (inL k xs (uB k xs bs) s).length (il (nl (inL k xs (uB k xs bs) s))) ∧ (∀ id, o' = some id → Hs.length ≤ id) ∧ Stay none Hs H' := by
 cases hU : uB k xs bs s with
 | true => exact loop34b hG hs hU hb hA h6 h7 h0 k 0 _ none Hs (by omega) (Stay.refl _ _) own_nil (fun id h => by cases h)
 | false =>
  have hk := hG.k1
  have e : inL k xs (uB k xs bs) s = [] := by unfold inL; rw [if_neg (by simp [hU])]
  rw [e]
  refine ⟨.slice none 0 0, none, Hs, ?_, own_nil, (fun id h => by cases h), Stay.refl _ _⟩
  obtain ⟨g0, _⟩ := fld3 hb
  obtain ⟨_, _, u1, u2⟩ := rd_at T23 h6 (use_get hs)
  rw [hU] at u2
  obtain ⟨_, _, rfl⟩ := hA.n.len
  obtain ⟨_, _, rfl⟩ := hA.a.len
  obtain ⟨_, _, rfl⟩ := h6.len
  obtain ⟨_, _, _, rfl⟩ := h7
  exact lp_last (f34_L1_2 g0 (by omega) u1 u2 rfl)
theorem loop34a {k : Nat} {xs : List Int} {bs : List Bool} (hG : Good k xs bs) {H0 Hb : AHeap} {prot : Nat} {vN vA x6 : Value} (hb : Hb[H0.length]? = some (bx k vN vA)) (hA : IsA Hb xs bs vN vA) (h6 : Rd Hb 4 1 x6 bs.length (bll (useL k xs bs))) (h0 : H0.length ≤ Hb.length) : ∀ (d s : Nat) (x7 : Value) (o7 : Option Nat) (vs : List Value) (H : AHeap), s + d = bs.length → Stay none Hb H → Own H 22 1 x7 o7 s vs → (∀ id, o7 = some id → Hb.length ≤ id) →
   (∀ j, j < s → ∃ r, vs[j]? = some r ∧ Rd H 3 1 r (inL k xs (uB k xs bs) j).length (il (nl (inL k xs (uB k xs bs) j)))) →
  ∃ x' H', lpInf (lpOf cfg a34 0 prot H0) ([.pointer (some ⟨H0.length, 0, some 3⟩), x6, x7, .int .i64 s], H) = some (.exit 0, [x'], H') ∧ RowsR H' x' bs.length (inL k xs (uB k xs bs)) ∧ Stay none Hb H'
 | 0, s, x7, o7, vs, H, hi, hst, h7, ho, hr => by
  have : s = bs.length := by omega
  subst this
  refine ⟨x7, H, ?_, ⟨vs, h7.rd, hr⟩, hst⟩
  obtain ⟨_, _, rfl⟩ := h6.len
  obtain ⟨_, _, rfl⟩ := h7.len
  exact lp_last (f34_L0_1 (by omega))
 | d + 1, s, x7, o7, vs, H, hi, hst, h7, ho, hr => by
  have hs : s < bs.length := by omega
  have hn5 := hG.n5
  have hbH : H[H0.length]? = some (bx k vN vA) := by rw [hst.2 _ (List.getElem?_eq_some_iff.1 hb).1 (by simp)]; exact hb
  have hH0 := hst.1
  obtain ⟨a7, c7, e7⟩ := h7.len
  obtain ⟨x9, o9, H1, y1, y2, y3, y4⟩ := loop34b' hG (prot := prot) hs hbH (hA.stay hst) (h6.stay hst) ⟨a7, s, c7, e7⟩ (by omega)
  have h7' := h7.stay y4 (fun _ _ h => by cases h)
  obtain ⟨a9, c9, e9⟩ := y2.len
  have hic : isCell x9 = true := by rw [e9]; rfl
  obtain ⟨a', c', o', H2, q1, q2, q3, q4, q5, q6⟩ := own_app Am23g.T22 h7' (ecs := [x9]) rfl (by simp [hic]) (prot := H0.length) (room := true) (fun id e => by have := ho id e; omega) (by have := y4.1; omega) (by omega) (L := 1 * 1) rfl (el := [x9].length) rfl
  have keep : ∀ r n cs, Rd H1 3 1 r n cs → Rd H2 3 1 r n cs := fun r n cs h => by
   cases ho7 : o7 with
   | none => rw [ho7] at q3; exact h.stay q3
   | some a =>
    rw [ho7] at q3 h7'
    obtain ⟨_, _, _, _, _, hH⟩ := h7'
    exact h.stayE hH (by decide) q3
  have ho' : ∀ id, some o' = some id → Hb.length ≤ id := fun id e => by
   cases e
   cases h : o7 with
   | none => have := q5 h; have := y4.1; omega
   | some a => have := q6 a h; have := ho a h; omega
  have hvl : vs.length = s := by have := h7.1; omega
  obtain ⟨x', H', z1, z2, z3⟩ := loop34a hG (prot := prot) hb hA h6 h0 d (s + 1) _ _ _ H2 (by omega) ((hst.trans y4).over q3 ho) q2 ho' (fun j hj => by
   by_cases e : j = s
   ·subst e
    exact ⟨x9, by rw [List.getElem?_append_right (by omega)]; simp [hvl], keep _ _ _ y2.rd⟩
   ·obtain ⟨r, r1, r2⟩ := hr j (by omega)
    exact ⟨r, by rw [List.getElem?_append_left (by omega)]; exact r1, keep _ _ _ (r2.stay y4)⟩)
  refine ⟨x', H', ?_, z2, z3⟩
  subst e7; subst e9
  obtain ⟨_, _, rfl⟩ := h6.len
  exact lp_next (f34_L0_0 (by omega) y1 q1 (fit64 (by omega) (by omega))) z1
end Go.Proofs.Ythjkodbinkiifaa.Am23
set_option linter.unusedVariables false
namespace Go.Proofs.Ythjkodbinkiifaa.Am23g
open Go Go.Proofs.Ythjkodbinkiifaa.Am Am23
section
variable {x0 x17 w : Array Value}
variable {x1 x10 : Int}
variable {H H1 H2 H3 : AHeap}
variable {prot x4p x4o x4l : Nat}
theorem f77_F_0 (rv : Value) (rH : AHeap) (h1 : x0.toList.all isCell = true) (h2 : aalloc cfg.P 99 (H ++ [AObj.cells x0.toList 99 x0.toList.length OMode.var]) = some (vP x4p x4o x4l, H1)) (h3 : Fit .i64 (x1.tdiv 64)) (h4 : 0 ≤ x1.tdiv 64) (h5 : x1.tdiv 64 < (↑8 : Int)) (h6 : getCells H1 H.length x0.toList.length (0 + (x1.tdiv 64).toNat * 1) 1 = some [Value.int .u64 x10]) (h7 : 0 ≤ IntKind.u64.wrap (x1.tmod 64)) (h8 : 1 = 1) (h9 : setCells H1 H.length H.length x0.toList.length (0 + (x1.tdiv 64).toNat * 1) [Value.int .u64 (IntKind.u64.wrap (↑(BitVec.ofInt IntKind.u64.bits x10 ||| BitVec.ofInt IntKind.u64.bits (IntKind.u64.wrap (1 * 2 ^ min (IntKind.u64.wrap (x1.tmod 64)).toNat IntKind.u64.bits))).toNat : Int))] = some H2) (h10 : getCells H2 H.length x0.toList.length 0 8 = some x17.toList) (h11 : x17.toList.length = 8) (h12 : setCells H2 H.length x4p x4l x4o x17.toList = some H3) (h13 : getCells H3 x4p x4l x4o 8 = some w.toList) (h14 : pfin a77 H [Value.agg w] H3 = (rv, rH)) : callInf cfg 77 [.agg x0, .int .i64 x1] prot H = some (rv, rH) :=
 fn_of2 a77 [.e, .r (vP x4p x4o x4l) H1, .e, .e, .e, .v (.int .u64 x10), .e, .e, .e, .e, .e, .h H2, .v (.agg x17), .h H3, .v (.agg w)] (ai h1 (ai h2 (ai (show (64 : Int) ≠ 0 by decide) (ai h3 (ai (show (64 : Int) ≠ 0 by decide) (ai h3 (ai h4 (ai h5 (ai h6 (ai (show (64 : Int) ≠ 0 by decide) (ai h7 (ai h4 (ai h5 (ai h8 (ai h9 (ai h10 (ai h11 (ai h12 (ai h13 h14))))))))))))))))))) (by kernel_rfl) rfl
end
end Go.Proofs.Ythjkodbinkiifaa.Am23g
namespace Go.Proofs.Ythjkodbinkiifaa.Am23g
open Go Go.Proofs.Ythjkodbinkiifaa.Am Am23
theorem slot_get {H : AHeap} {p : Nat} {S : Nat → Bool} (h : H[p]? = some (.cells (setL S) 99 8 .var)) : getCells H p 8 0 8 = some (setA S).toList := arr_all h (setL_len S)

theorem loop26i {G : List (List Int)} (hs : Short G) {x : Value} {H0 H : AHeap} {prot : Nat} (hx : Gr H x G) {v : Nat} (hv : v < G.length) : ∀ (d i : Nat), i + d = G[v].length →
  lpInf (lpOf cfg a76 1 prot H0) ([x, .int .i64 v, .int .i64 i], H) =
   some (if bad G.length (G[v].drop i) then (.ret, [x, .int .i64 11, .int .i64 v], H) else (.exit 2, [x, .tuple #[], .int .i64 v], H))
 | 0, i, hi => by
  obtain ⟨id, L, r, a1, a2, a3⟩ := hx.row hv
  rw [List.drop_of_length_le (by omega)]
  obtain ⟨_, _, rfl⟩ := hx.len
  obtain ⟨_, _, rfl⟩ := a3.len
  exact lp_last (f76_L1_3 a1 a2 (by omega))
 | d + 1, i, hi => by
  obtain ⟨id, L, r, a1, a2, a3⟩ := hx.row hv
  have hl := hs _ (List.getElem_mem hv)
  have hil : i < G[v].length := by omega
  obtain ⟨id2, L2, p, q⟩ := rd_at T34 a3 (il_get hil)
  have ih := loop26i hs hx hv (H0 := H0) (prot := prot) d (i + 1) (by omega)
  rw [List.drop_eq_getElem_cons hil]
  unfold bad at ih ⊢
  rw [List.any_cons]
  obtain ⟨_, _, rfl⟩ := hx.len
  obtain ⟨_, _, rfl⟩ := a3.len
  by_cases h1 : G[v][i] < 0
  ·rw [decide_eq_true (.inl h1), Bool.true_or, if_pos rfl]
   exact lp_last (f76_L1_0 a1 a2 (by omega) a1 a2 p q h1)
  ·by_cases h2 : (G.length : Int) ≤ G[v][i]
   ·rw [decide_eq_true (.inr h2), Bool.true_or, if_pos rfl]
    exact lp_last (f76_L1_1 a1 a2 (by omega) a1 a2 p q h1 a1 a2 p q (by omega))
   ·rw [decide_eq_false (by omega), Bool.false_or]
    exact lp_next (f76_L1_2 a1 a2 (by omega) a1 a2 p q h1 a1 a2 p q (by omega) (fit64 (by omega) (by omega))) ih
theorem loop26o {G : List (List Int)} (hs : Short G) (hn : G.length ≤ 512) {x : Value} {H0 H : AHeap} {prot : Nat} (hx : Gr H x G) : ∀ (d i : Nat), i + d = G.length →
  ∃ e vs, lpInf (lpOf cfg a76 0 prot H0) ([x, .int .i64 i], H) = some (e, vs, H) ∧ ((e = .exit 0 ∧ vs = [.tuple #[]] ∧ (G.drop i).any (bad G.length) = false) ∨ (e = .ret ∧ vs = [.int .i64 11] ∧ (G.drop i).any (bad G.length) = true))
 | 0, i, hi => by
  rw [List.drop_of_length_le (by omega)]
  obtain ⟨_, _, rfl⟩ := hx.len
  exact ⟨_, _, lp_last (f76_L0_2 (by omega)), .inl ⟨rfl, rfl, rfl⟩⟩
 | d + 1, i, hi => by
  have hil : i < G.length := by omega
  obtain ⟨e, vs, z1, z2⟩ := loop26o hs hn hx (H0 := H0) (prot := prot) d (i + 1) (by omega)
  have hlp := loop26i hs hx hil (H0 := H0) (prot := prot) (G[i]).length 0 (by omega)
  rw [List.drop_zero] at hlp
  rw [List.drop_eq_getElem_cons hil, List.any_cons]
  obtain ⟨_, _, rfl⟩ := hx.len
  cases hb : bad G.length G[i] with
  | true =>
   rw [hb, if_pos rfl] at hlp
   exact ⟨_, _, lp_last (f76_L0_1 (by omega) hlp), .inr ⟨rfl, rfl, rfl⟩⟩
  | false =>
   rw [hb, if_neg (by simp)] at hlp
   exact ⟨e, vs, lp_next (f76_L0_0 (by omega) hlp (fit64 (by omega) (by omega))) z1, z2⟩
theorem c26 {G : List (List Int)} (hs : Short G) {x : Value} (prot : Nat) {H : AHeap} (hx : Gr H x G) : callInf cfg 76 [x] prot H = some (.int .i64 (chk G), H) := by
 obtain ⟨a, c, hxe⟩ := hx.len
 unfold chk
 by_cases h : 512 < G.length
 ·rw [if_pos h]
  subst hxe
  exact f76_F_0 (by omega)
 ·rw [if_neg h]
  obtain ⟨e, vs, z1, z2⟩ := loop26o hs (by omega) hx (H0 := H) (prot := prot) G.length 0 (by omega)
  rw [List.drop_zero] at z2
  subst hxe
  rcases z2 with ⟨rfl, rfl, h3⟩ | ⟨rfl, rfl, h3⟩
  ·rw [h3, if_neg (by simp)]
   exact f76_F_1 (by omega) z1
  ·rw [h3, if_pos rfl]
   exact f76_F_2 (by omega) z1

theorem c43 {S : Nat → Bool} {i : Nat} (hi : i < 512) (prot : Nat) (H : AHeap) : callInf cfg 77 [.agg (setA S), .int .i64 i] prot H = some (.agg (setA (addS S i)), H) := by
 obtain ⟨HA, hHA⟩ : ∃ HA, HA = H ++ [AObj.cells (setL S) 99 (setL S).length .var] := ⟨_, rfl⟩
 have lA : HA.length = H.length + 1 := by rw [hHA]; simp
 obtain ⟨HB, hHB⟩ : ∃ HB, HB = HA ++ [AObj.cells (setL noS) 99 8 .var] := ⟨_, rfl⟩
 have lB : HB.length = H.length + 2 := by rw [hHB, List.length_append, List.length_singleton]; omega
 have gA : HB[H.length]? = some (.cells (setL S) 99 8 .var) := by
  rw [hHB, List.getElem?_append_left (by omega), hHA, append_get.1, setL_len]
 have gB : HB[HA.length]? = some (.cells (setL noS) 99 8 .var) := by rw [hHB]; exact append_get.1
 have ha := al39 HA
 rw [← hHB] at ha
 have ed : (i : Int).tdiv 64 = ((i / 64 : Nat) : Int) := tdiv64 i
 have hw : i / 64 < 8 := by omega
 have r1 := arr_get gA (setL_len S) (setL_get hw)
 obtain ⟨HC, hHC⟩ : ∃ HC, HC = HB.set H.length (.cells (setL (addS S i)) 99 8 .var) := ⟨_, rfl⟩
 have s1 : setCells HB H.length H.length 8 (0 + i / 64 * 1) [.int .u64 ((wordS S (i / 64) ||| 2 ^ (i % 64) : Nat) : Int)] = some HC := by
  rw [hHC, ← setL_add hi]
  exact arr_set gA (setL_len S) (Nat.le_refl _) hw rfl
 have gC : HC[H.length]? = some (.cells (setL (addS S i)) 99 8 .var) := by rw [hHC, List.getElem?_set_self (by omega)]
 have gC2 : HC[HA.length]? = some (.cells (setL noS) 99 8 .var) := by rw [hHC, List.getElem?_set_ne (by omega)]; exact gB
 obtain ⟨HD, hHD⟩ : ∃ HD, HD = HC.set HA.length (.cells (setL (addS S i)) 99 8 .var) := ⟨_, rfl⟩
 have s2 : setCells HC H.length HA.length 8 0 (setL (addS S i)) = some HD := by rw [hHD]; exact arr_put gC2 (setL_len _) (by omega) (setL_len _) (setL_cell _)
 have lC : HC.length = HB.length := by rw [hHC]; simp
 have gD : HD[HA.length]? = some (.cells (setL (addS S i)) 99 8 .var) := by rw [hHD, List.getElem?_set_self (by omega)]
 have em : IntKind.u64.wrap ((i : Int).tmod 64) = ((i % 64 : Nat) : Int) := by rw [tmod64, u64_wrapN, Nat.mod_eq_of_lt (by omega)]
 have hor := bit_or (a := wordS S (i / 64)) (i := i) (wordS_lt _ _) em
 rw [← hor] at s1
 have e8 : (setA S).toList.length = 8 := setL_len S
 subst hHA
 refine f77_F_0 (x10 := ((wordS S (i / 64) : Nat) : Int)) (x17 := setA (addS S i)) (w := setA (addS S i)) _ _ (setL_cell S) ha (by rw [ed]; exact fit64 (by omega) (by omega)) (by rw [ed]; omega) (by rw [ed]; omega) ?_ (by rw [em]; omega) rfl ?_ ?_ (setL_len _) s2 (arr_all gD (setL_len _)) (pf_plain rfl (by rw [List.all_cons, setA_plain]; rfl))
 ·rw [e8, ed, Int.toNat_natCast]; exact r1
 ·rw [e8, ed, Int.toNat_natCast]; exact s1
 ·rw [e8]; exact arr_all gC (setL_len _)
end Go.Proofs.Ythjkodbinkiifaa.Am23g
set_option linter.unusedVariables false
namespace Go.Proofs.Ythjkodbinkiifaa.Am23g
open Go Go.Proofs.Ythjkodbinkiifaa.Am Am23
section
variable {x0a x1a z0a z6a x6a x35a x49a x54a x63a x73a x82a x87a : Option Addr}
variable {x0n x0c x1n x1c prot x4p x4o x4l x5p x5o x5l z0n z0c z4p z4o z4l z5p z5o z5l z6n z6c z4p_2 z4o_2 z4l_2 z5p_2 z5o_2 z5l_2 x6n x6c x19p x19o x19l x26p x26o x26l x32p x32o x32l x35n x35c x43p x43o x43l x49n x49c x53p x53o x53l x54n x54c x62p x62o x62l x63n x63c x65p x65o x65l x72p x72o x72l x73n x73c x75p x75o x75l x81p x81o x81l x82n x82c x84p x84o x84l x87n x87c : Nat}
variable {H H1 H2 H3 H4 H5 H0 : AHeap}
variable {x88 w x16 x23 x28 x59 x69 x77 : Array Value}
variable {x7 x20 x27 x33 x44 x8 x9 x66 x76 x85 : Int}
variable {x21 x67 : Bool}
theorem f75_F_0 (rv : Value) (rH : AHeap) (h1 : aalloc cfg.P 99 H = some (vP x4p x4o x4l, H1)) (h2 : aalloc cfg.P 99 H1 = some (vP x5p x5o x5l, H2)) (h3 : lI a75 0 prot H ([vS x0a x0n x0c, vS x1a x1n x1c, vP x4p x4o x4l, vP x5p x5o x5l, vS none 0 0, vI 0], H2) = some (Ex.exit 0, [vS z0a z0n z0c, vP z4p z4o z4l, vP z5p z5o z5l, vS z6a z6n z6c], H3)) (h4 : lI a75 1 prot H ([vS z0a z0n z0c, vP z4p z4o z4l, vP z5p z5o z5l, vS z6a z6n z6c], H3) = some (Ex.exit 2, [vP z4p_2 z4o_2 z4l_2, vP z5p_2 z5o_2 z5l_2], H4)) (h5 : getCells H4 z5p_2 z5l_2 z5o_2 8 = some x88.toList) (h6 : x88.toList.length = 8) (h7 : setCells H4 H.length z4p_2 z4l_2 z4o_2 x88.toList = some H5) (h8 : getCells H5 z4p_2 z4l_2 z4o_2 8 = some w.toList) (h9 : pfin a75 H [Value.agg w] H5 = (rv, rH)) : callInf cfg 75 [.slice x0a x0n x0c, .slice x1a x1n x1c] prot H = some (rv, rH) :=
 fn_of2 a75 [.r (vP x4p x4o x4l) H1, .r (vP x5p x5o x5l) H2, .lo (.exit 0, [vS z0a z0n z0c, vP z4p z4o z4l, vP z5p z5o z5l, vS z6a z6n z6c], H3), .lo (.exit 2, [vP z4p_2 z4o_2 z4l_2, vP z5p_2 z5o_2 z5l_2], H4), .v (.agg x88), .h H5, .v (.agg w)] (ai h1 (ai h2 (ai h3 (ai h4 (ai h5 (ai h6 (ai h7 (ai h8 h9)))))))) (by kernel_rfl) rfl
theorem f75_L0_0 (h1 : x7 < (↑x1n : Int)) (h2 : getCells H x5p x5l x5o 8 = some x16.toList) (h3 : aX 22 (vS x1a x1n x1c) (vI x7) = some (vP x19p x19o x19l)) (h4 : getCells H x19p x19l x19o 1 = some [vI x20]) (h5 : cI 63 [Value.agg x16, vI x20] H0.length H = some (Value.bool x21, H)) (h6 : (!x21) = false) (h7 : Fit .i64 (x7 + 1)) : lpOf cfg a75 0 prot H0 ([.slice x0a x0n x0c, .slice x1a x1n x1c, .pointer (some ⟨x4p, x4o, some x4l⟩), .pointer (some ⟨x5p, x5o, some x5l⟩), .slice x6a x6n x6c, .int .i64 x7], H) = some (Sum.inl ([Value.slice x0a x0n x0c, Value.slice x1a x1n x1c, Value.pointer (some ⟨x4p, x4o, some x4l⟩), Value.pointer (some ⟨x5p, x5o, some x5l⟩), Value.slice x6a x6n x6c, Value.int .i64 (x7 + 1)], H)) :=
 lp_of2 [.e, .e, .b true, .v (.agg x16), .v (vP x19p x19o x19l), .v (vI x20), .v (.bool x21), .e, .b false, .e] (ai (decide_eq_true h1) (ai h2 (ai h3 (ai h4 (ai h5 (ai h6 (ai h7 (Eq.refl (Sum.inl ([vS x0a x0n x0c, vS x1a x1n x1c, vP x4p x4o x4l, vP x5p x5o x5l, vS x6a x6n x6c, vI (x7 + 1)], H) : LS ⊕ LO))))))))) (by kernel_rfl)
theorem f75_L0_1 (h1 : x7 < (↑x1n : Int)) (h2 : getCells H x5p x5l x5o 8 = some x16.toList) (h3 : aX 22 (vS x1a x1n x1c) (vI x7) = some (vP x19p x19o x19l)) (h4 : getCells H x19p x19l x19o 1 = some [vI x20]) (h5 : cI 63 [Value.agg x16, vI x20] H0.length H = some (Value.bool x21, H)) (h6 : (!x21) = true) (h7 : getCells H x5p x5l x5o 8 = some x23.toList) (h8 : aX 22 (vS x1a x1n x1c) (vI x7) = some (vP x26p x26o x26l)) (h9 : getCells H x26p x26l x26o 1 = some [vI x27]) (h10 : cI 77 [Value.agg x23, vI x27] H0.length H = some (Value.agg x28, H)) (h11 : x28.toList.length = 8) (h12 : setCells H H0.length x5p x5l x5o x28.toList = some H2) (h13 : aX 22 (vS x1a x1n x1c) (vI x7) = some (vP x32p x32o x32l)) (h14 : getCells H2 x32p x32l x32o 1 = some [vI x33]) (h15 : aappend cfg.P H0.length true 22 22 (vS x6a x6n x6c) (vS (some ⟨H2.length, 0, some (1 * 1)⟩) 1 1) (H2 ++ [wo [vI x33] 3]) = some (vS x35a x35n x35c, H3)) (h16 : Fit .i64 (x7 + 1)) : lpOf cfg a75 0 prot H0 ([.slice x0a x0n x0c, .slice x1a x1n x1c, .pointer (some ⟨x4p, x4o, some x4l⟩), .pointer (some ⟨x5p, x5o, some x5l⟩), .slice x6a x6n x6c, .int .i64 x7], H) = some (Sum.inl ([Value.slice x0a x0n x0c, Value.slice x1a x1n x1c, Value.pointer (some ⟨x4p, x4o, some x4l⟩), Value.pointer (some ⟨x5p, x5o, some x5l⟩), Value.slice x35a x35n x35c, Value.int .i64 (x7 + 1)], H3)) :=
 lp_of2 [.e, .e, .b true, .v (.agg x16), .v (vP x19p x19o x19l), .v (vI x20), .v (.bool x21), .e, .b true, .v (.agg x23), .v (vP x26p x26o x26l), .v (vI x27), .v (.agg x28), .h H2, .v (vP x32p x32o x32l), .v (vI x33), .e, .r (vS x35a x35n x35c) H3, .e] (ai (decide_eq_true h1) (ai h2 (ai h3 (ai h4 (ai h5 (ai h6 (ai h7 (ai h8 (ai h9 (ai h10 (ai h11 (ai h12 (ai h13 (ai h14 (ai h15 (ai h16 (Eq.refl (Sum.inl ([vS x0a x0n x0c, vS x1a x1n x1c, vP x4p x4o x4l, vP x5p x5o x5l, vS x35a x35n x35c, vI (x7 + 1)], H3) : LS ⊕ LO)))))))))))))))))) (by kernel_rfl)
theorem f75_L0_2 (h1 : ¬(x7 < (↑x1n : Int))) : lpOf cfg a75 0 prot H0 ([.slice x0a x0n x0c, .slice x1a x1n x1c, .pointer (some ⟨x4p, x4o, some x4l⟩), .pointer (some ⟨x5p, x5o, some x5l⟩), .slice x6a x6n x6c, .int .i64 x7], H) = some (Sum.inr (Ex.exit 0, [Value.slice x0a x0n x0c, Value.pointer (some ⟨x4p, x4o, some x4l⟩), Value.pointer (some ⟨x5p, x5o, some x5l⟩), Value.slice x6a x6n x6c], H)) :=
 lp_of2 [.e, .e, .b false] (ai (decide_eq_false h1) (Eq.refl (Sum.inr (Ex.exit 0, [vS x0a x0n x0c, vP x4p x4o x4l, vP x5p x5o x5l, vS x6a x6n x6c], H) : LS ⊕ LO))) (by kernel_rfl)
theorem f75_L1_0 (h1 : (↑x6n : Int) > 0) (h2 : Fit .i64 ((↑x6n : Int) - 1)) (h3 : aX 22 (vS x6a x6n x6c) (vI ((↑x6n : Int) - 1)) = some (vP x43p x43o x43l)) (h4 : getCells H x43p x43l x43o 1 = some [vI x44]) (h5 : aslice cfg.P 22 (vS x6a x6n x6c) none (some (vI ((↑x6n : Int) - 1))) none H = some (vS x49a x49n x49c)) (h6 : lI a75 2 prot H0 ([vS x0a x0n x0c, vP x4p x4o x4l, vP x5p x5o x5l, vS x49a x49n x49c, vI x44, vI 0], H) = some (Ex.exit 4, [vS z0a z0n z0c, vP z4p z4o z4l, vP z5p z5o z5l, vS z6a z6n z6c], H2)) : lpOf cfg a75 1 prot H0 ([.slice x0a x0n x0c, .pointer (some ⟨x4p, x4o, some x4l⟩), .pointer (some ⟨x5p, x5o, some x5l⟩), .slice x6a x6n x6c], H) = some (Sum.inl ([Value.slice z0a z0n z0c, Value.pointer (some ⟨z4p, z4o, some z4l⟩), Value.pointer (some ⟨z5p, z5o, some z5l⟩), Value.slice z6a z6n z6c], H2)) :=
 lp_of2 [.e, .e, .b true, .e, .e, .v (vP x43p x43o x43l), .v (vI x44), .e, .e, .v (vS x49a x49n x49c), .lo (.exit 4, [vS z0a z0n z0c, vP z4p z4o z4l, vP z5p z5o z5l, vS z6a z6n z6c], H2)] (ai (decide_eq_true h1) (ai h2 (ai h3 (ai h4 (ai h2 (ai h5 (ai h6 (Eq.refl (Sum.inl ([vS z0a z0n z0c, vP z4p z4o z4l, vP z5p z5o z5l, vS z6a z6n z6c], H2) : LS ⊕ LO))))))))) (by kernel_rfl)
theorem f75_L1_1 (h1 : ¬((↑x6n : Int) > 0)) : lpOf cfg a75 1 prot H0 ([.slice x0a x0n x0c, .pointer (some ⟨x4p, x4o, some x4l⟩), .pointer (some ⟨x5p, x5o, some x5l⟩), .slice x6a x6n x6c], H) = some (Sum.inr (Ex.exit 2, [Value.pointer (some ⟨x4p, x4o, some x4l⟩), Value.pointer (some ⟨x5p, x5o, some x5l⟩)], H)) :=
 lp_of2 [.e, .e, .b false] (ai (decide_eq_false h1) (Eq.refl (Sum.inr (Ex.exit 2, [vP x4p x4o x4l, vP x5p x5o x5l], H) : LS ⊕ LO))) (by kernel_rfl)
theorem f75_L2_0 (h1 : aX 86 (vS x0a x0n x0c) (vI x8) = some (vP x53p x53o x53l)) (h2 : getCells H x53p x53l x53o 1 = some [vS x54a x54n x54c]) (h3 : x9 < (↑x54n : Int)) (h4 : getCells H x5p x5l x5o 8 = some x59.toList) (h5 : aX 86 (vS x0a x0n x0c) (vI x8) = some (vP x62p x62o x62l)) (h6 : getCells H x62p x62l x62o 1 = some [vS x63a x63n x63c]) (h7 : aX 22 (vS x63a x63n x63c) (vI x9) = some (vP x65p x65o x65l)) (h8 : getCells H x65p x65l x65o 1 = some [vI x66]) (h9 : cI 63 [Value.agg x59, vI x66] H0.length H = some (Value.bool x67, H)) (h10 : (!x67) = false) (h11 : Fit .i64 (x9 + 1)) : lpOf cfg a75 2 prot H0 ([.slice x0a x0n x0c, .pointer (some ⟨x4p, x4o, some x4l⟩), .pointer (some ⟨x5p, x5o, some x5l⟩), .slice x6a x6n x6c, .int .i64 x8, .int .i64 x9], H) = some (Sum.inl ([Value.slice x0a x0n x0c, Value.pointer (some ⟨x4p, x4o, some x4l⟩), Value.pointer (some ⟨x5p, x5o, some x5l⟩), Value.slice x6a x6n x6c, Value.int .i64 x8, Value.int .i64 (x9 + 1)], H)) :=
 lp_of2 [.v (vP x53p x53o x53l), .v (vS x54a x54n x54c), .e, .e, .b true, .v (.agg x59), .v (vP x62p x62o x62l), .v (vS x63a x63n x63c), .v (vP x65p x65o x65l), .v (vI x66), .v (.bool x67), .e, .b false, .e] (ai h1 (ai h2 (ai (decide_eq_true h3) (ai h4 (ai h5 (ai h6 (ai h7 (ai h8 (ai h9 (ai h10 (ai h11 (Eq.refl (Sum.inl ([vS x0a x0n x0c, vP x4p x4o x4l, vP x5p x5o x5l, vS x6a x6n x6c, vI x8, vI (x9 + 1)], H) : LS ⊕ LO))))))))))))) (by kernel_rfl)
theorem f75_L2_1 (h1 : aX 86 (vS x0a x0n x0c) (vI x8) = some (vP x53p x53o x53l)) (h2 : getCells H x53p x53l x53o 1 = some [vS x54a x54n x54c]) (h3 : x9 < (↑x54n : Int)) (h4 : getCells H x5p x5l x5o 8 = some x59.toList) (h5 : aX 86 (vS x0a x0n x0c) (vI x8) = some (vP x62p x62o x62l)) (h6 : getCells H x62p x62l x62o 1 = some [vS x63a x63n x63c]) (h7 : aX 22 (vS x63a x63n x63c) (vI x9) = some (vP x65p x65o x65l)) (h8 : getCells H x65p x65l x65o 1 = some [vI x66]) (h9 : cI 63 [Value.agg x59, vI x66] H0.length H = some (Value.bool x67, H)) (h10 : (!x67) = true) (h11 : getCells H x5p x5l x5o 8 = some x69.toList) (h12 : aX 86 (vS x0a x0n x0c) (vI x8) = some (vP x72p x72o x72l)) (h13 : getCells H x72p x72l x72o 1 = some [vS x73a x73n x73c]) (h14 : aX 22 (vS x73a x73n x73c) (vI x9) = some (vP x75p x75o x75l)) (h15 : getCells H x75p x75l x75o 1 = some [vI x76]) (h16 : cI 77 [Value.agg x69, vI x76] H0.length H = some (Value.agg x77, H)) (h17 : x77.toList.length = 8) (h18 : setCells H H0.length x5p x5l x5o x77.toList = some H2) (h19 : aX 86 (vS x0a x0n x0c) (vI x8) = some (vP x81p x81o x81l)) (h20 : getCells H2 x81p x81l x81o 1 = some [vS x82a x82n x82c]) (h21 : aX 22 (vS x82a x82n x82c) (vI x9) = some (vP x84p x84o x84l)) (h22 : getCells H2 x84p x84l x84o 1 = some [vI x85]) (h23 : aappend cfg.P H0.length true 22 22 (vS x6a x6n x6c) (vS (some ⟨H2.length, 0, some (1 * 1)⟩) 1 1) (H2 ++ [wo [vI x85] 3]) = some (vS x87a x87n x87c, H3)) (h24 : Fit .i64 (x9 + 1)) : lpOf cfg a75 2 prot H0 ([.slice x0a x0n x0c, .pointer (some ⟨x4p, x4o, some x4l⟩), .pointer (some ⟨x5p, x5o, some x5l⟩), .slice x6a x6n x6c, .int .i64 x8, .int .i64 x9], H) = some (Sum.inl ([Value.slice x0a x0n x0c, Value.pointer (some ⟨x4p, x4o, some x4l⟩), Value.pointer (some ⟨x5p, x5o, some x5l⟩), Value.slice x87a x87n x87c, Value.int .i64 x8, Value.int .i64 (x9 + 1)], H3)) :=
 lp_of2 [.v (vP x53p x53o x53l), .v (vS x54a x54n x54c), .e, .e, .b true, .v (.agg x59), .v (vP x62p x62o x62l), .v (vS x63a x63n x63c), .v (vP x65p x65o x65l), .v (vI x66), .v (.bool x67), .e, .b true, .v (.agg x69), .v (vP x72p x72o x72l), .v (vS x73a x73n x73c), .v (vP x75p x75o x75l), .v (vI x76), .v (.agg x77), .h H2, .v (vP x81p x81o x81l), .v (vS x82a x82n x82c), .v (vP x84p x84o x84l), .v (vI x85), .e, .r (vS x87a x87n x87c) H3, .e] (ai h1 (ai h2 (ai (decide_eq_true h3) (ai h4 (ai h5 (ai h6 (ai h7 (ai h8 (ai h9 (ai h10 (ai h11 (ai h12 (ai h13 (ai h14 (ai h15 (ai h16 (ai h17 (ai h18 (ai h19 (ai h20 (ai h21 (ai h22 (ai h23 (ai h24 (Eq.refl (Sum.inl ([vS x0a x0n x0c, vP x4p x4o x4l, vP x5p x5o x5l, vS x87a x87n x87c, vI x8, vI (x9 + 1)], H3) : LS ⊕ LO)))))))))))))))))))))))))) (by kernel_rfl)
theorem f75_L2_2 (h1 : aX 86 (vS x0a x0n x0c) (vI x8) = some (vP x53p x53o x53l)) (h2 : getCells H x53p x53l x53o 1 = some [vS x54a x54n x54c]) (h3 : ¬(x9 < (↑x54n : Int))) : lpOf cfg a75 2 prot H0 ([.slice x0a x0n x0c, .pointer (some ⟨x4p, x4o, some x4l⟩), .pointer (some ⟨x5p, x5o, some x5l⟩), .slice x6a x6n x6c, .int .i64 x8, .int .i64 x9], H) = some (Sum.inr (Ex.exit 4, [Value.slice x0a x0n x0c, Value.pointer (some ⟨x4p, x4o, some x4l⟩), Value.pointer (some ⟨x5p, x5o, some x5l⟩), Value.slice x6a x6n x6c], H)) :=
 lp_of2 [.v (vP x53p x53o x53l), .v (vS x54a x54n x54c), .e, .e, .b false] (ai h1 (ai h2 (ai (decide_eq_false h3) (Eq.refl (Sum.inr (Ex.exit 4, [vS x0a x0n x0c, vP x4p x4o x4l, vP x5p x5o x5l, vS x6a x6n x6c], H) : LS ⊕ LO))))) (by kernel_rfl)
end
end Go.Proofs.Ythjkodbinkiifaa.Am23g
namespace Go.Proofs.Ythjkodbinkiifaa.Am23g
open Go Go.Proofs.Ythjkodbinkiifaa.Am Am23
/-! All that is reached, by a list of what is to be done. -/
def un (N : Nat) (S : Nat → Bool) : Nat := (List.range N).countP fun x => !S x
theorem un_succ (N : Nat) (S : Nat → Bool) : un (N + 1) S = un N S + (if S N then 0 else 1) := by
 unfold un
 rw [List.range_succ, List.countP_append]
 cases h : S N <;> simp [h]
theorem un_add {S : Nat → Bool} {u : Nat} (hs : S u = false) : ∀ N, un N (addS S u) + (if u < N then 1 else 0) = un N S
 | 0 => by simp [un]
 | N + 1 => by
  have ih := un_add hs N
  have e : addS S u N = (S N || decide (N = u)) := rfl
  have e1 := un_succ N (addS S u)
  have e2 := un_succ N S
  rw [e] at e1
  by_cases h : N = u
  ·subst h
   rw [decide_eq_true rfl, Bool.or_true, if_pos rfl] at e1
   rw [hs, if_neg (by simp)] at e2
   rw [if_neg (by omega)] at ih
   rw [if_pos (by omega)]
   omega
  ·rw [decide_eq_false h, Bool.or_false] at e1
   by_cases h2 : u < N
   ·rw [if_pos h2] at ih
    rw [if_pos (by omega)]
    omega
   ·rw [if_neg h2] at ih
    rw [if_neg (by omega)]
    omega
theorem un_le (N : Nat) (S : Nat → Bool) : un N S ≤ N := by
 have := List.countP_le_length (p := fun x => !S x) (l := List.range N)
 rw [List.length_range] at this
 exact this
/-- Vertices and all that they reach. -/
def RF (G : List (List Int)) (F : List Nat) (x : Nat) : Prop := x ∈ F ∨ ∃ f ∈ F, Rch G f x
noncomputable def rfS (G : List (List Int)) (F : List Nat) : Nat → Bool := fun x => @decide (RF G F x) (Classical.propDecidable _)
theorem rfS_iff {G : List (List Int)} {F : List Nat} {x : Nat} : rfS G F x = true ↔ RF G F x := by unfold rfS; exact @decide_eq_true_iff _ (Classical.propDecidable _)
theorem RF.step {G : List (List Int)} {F : List Nat} {x u : Nat} (h : RF G F x) (hu : u ∈ sc G x) : RF G F u := by
 rcases h with h | ⟨f, h1, h2⟩
 ·exact .inr ⟨x, h, .one hu⟩
 ·exact .inr ⟨f, h1, .step h2 hu⟩
structure WI (G : List (List Int)) (F : List Nat) (S : Nat → Bool) (todo : List Nat) (v : Nat) : Prop where
 sound : ∀ x, S x = true → RF G F x
 low : ∀ x, S x = true → x < G.length
 inS : ∀ t ∈ todo, S t = true
 clo : ∀ x, S x = true → x ∉ todo → x ≠ v → ∀ u ∈ sc G x, S u = true
 cnt : todo.length + un G.length S ≤ G.length
theorem WI.start (G : List (List Int)) (F : List Nat) (v : Nat) : WI G F noS [] v :=
 ⟨fun x h => (by cases h), fun x h => (by cases h), fun t h => (by cases h), fun x h => (by cases h), by have := un_le G.length noS; simpa using this⟩
theorem WI.push {G : List (List Int)} {F : List Nat} {S : Nat → Bool} {todo : List Nat} {v u : Nat} (h : WI G F S todo v) (hu : u < G.length) (hs : S u = false) (hr : RF G F u) : WI G F (addS S u) (todo ++ [u]) v := by
 have hadd : ∀ x, addS S u x = true ↔ S x = true ∨ x = u := fun x => by unfold addS; simp
 refine ⟨fun x hx => ?_, fun x hx => ?_, fun t ht => ?_, fun x hx h1 h2 w hw => ?_, ?_⟩
 ·rcases (hadd x).1 hx with h1 | rfl
  ·exact h.sound x h1
  ·exact hr
 ·rcases (hadd x).1 hx with h1 | rfl
  ·exact h.low x h1
  ·exact hu
 ·rw [hadd]
  rcases List.mem_append.1 ht with h1 | h1
  ·exact .inl (h.inS t h1)
  ·exact .inr (List.mem_singleton.1 h1)
 ·rw [hadd]
  rw [List.mem_append, List.mem_singleton, not_or] at h1
  rcases (hadd x).1 hx with h3 | h3
  ·exact .inl (h.clo x h3 h1.1 h2 w hw)
  ·exact absurd h3 h1.2
 ·have h1 := un_add hs G.length
  rw [if_pos hu] at h1
  have := h.cnt
  rw [List.length_append, List.length_singleton]
  omega
theorem WI.done {G : List (List Int)} {F : List Nat} {S : Nat → Bool} (h : WI G F S [] G.length) (hF : ∀ f ∈ F, S f = true) : ∀ x, S x = rfS G F x := fun x => by
 rw [Bool.eq_iff_iff, rfS_iff]
 refine ⟨h.sound x, fun hx => ?_⟩
 have step : ∀ a b, S a = true → b ∈ sc G a → S b = true := fun a b ha hb => h.clo a ha (by simp) (by have := h.low a ha; omega) b hb
 rcases hx with hx | ⟨f, hf, hx⟩
 ·exact hF x hx
 ·have h0 := hF f hf
  induction hx with
  | one e => exact step _ _ h0 e
  | step _ e ih => exact step _ _ ih e

/-! ### The machine -/
structure Q (H0 H : AHeap) (p4 p5 : Nat) (x6 : Value) (o6 : Option Nat) (S : Nat → Bool) (todo : List Nat) : Prop where
 st : Stay none H0 H
 g5 : H[p5]? = some (.cells (setL S) 99 8 .var)
 b5 : H0.length ≤ p5
 g4 : H[p4]? = some (.cells (setL noS) 99 8 .var)
 n45 : p4 ≠ p5
 sk : Stk H 3 x6 o6 todo.length (il (nl todo))
 bo : ∀ id, o6 = some id → H0.length ≤ id ∧ id ≠ p5 ∧ id ≠ p4
theorem il_snoc (l : List Nat) (u : Nat) : il (nl (l ++ [u])) = il (nl l) ++ [.int .i64 (u : Int)] := by simp [il, nl]
theorem nl_get {F : List Nat} {i : Nat} (h : i < F.length) : (il (nl F))[i]? = some (.int .i64 ((F[i] : Nat) : Int)) := by simp [il, nl, h]
theorem Q.push {H0 H : AHeap} {p4 p5 : Nat} {x6 : Value} {o6 : Option Nat} {S : Nat → Bool} {todo : List Nat} (h : Q H0 H p4 p5 x6 o6 S todo) {u : Nat} (ht : todo.length ≤ 512) :
  ∃ H2 a' c' o' H3, setCells H H0.length p5 8 0 (setA (addS S u)).toList = some H2 ∧ Stay none H0 H2 ∧ aappend cfg.P H0.length true 22 22 x6 (.slice (some ⟨H2.length, 0, some (1 * 1)⟩) 1 1) (H2 ++ [wo [.int .i64 (u : Int)] 3]) = some (.slice a' (todo.length + 1) c', H3) ∧
   Q H0 H3 p4 p5 (.slice a' (todo.length + 1) c') (some o') (addS S u) (todo ++ [u]) := by
 obtain ⟨H2, hH2⟩ : ∃ H2, H2 = H.set p5 (.cells (setL (addS S u)) 99 8 .var) := ⟨_, rfl⟩
 have lt5 := (List.getElem?_eq_some_iff.1 h.g5).1
 have s2 : Stay (some p5) H H2 := by rw [hH2]; exact set_stay
 have l2 : H2.length = H.length := by rw [hH2]; simp
 have g2 : H2[p5]? = some (.cells (setL (addS S u)) 99 8 .var) := by rw [hH2, List.getElem?_set_self lt5]
 have st2 := h.st.over s2 (fun id e => by have := Option.some.inj e; have := h.b5; omega)
 have k2 := h.sk.stay s2 (fun id e e2 => (h.bo id e).2.1 (Option.some.inj e2).symm)
 have lst := st2.1
 have lt4 := (List.getElem?_eq_some_iff.1 h.g4).1
 have g42 : H2[p4]? = some (.cells (setL noS) 99 8 .var) := by rw [s2.2 _ lt4 (fun e => h.n45 (Option.some.inj e).symm)]; exact h.g4
 obtain ⟨a', c', o', H3, q1, q2, q3, q4, q5, q6⟩ := stk_push T34 k2 (v := .int .i64 (u : Int)) rfl (prot := H0.length) (fun id e => (h.bo id e).1) (by omega) (by omega) (L := 1 * 1) rfl (el := 1) rfl
 refine ⟨H2, a', c', o', H3, by rw [hH2]; exact arr_put h.g5 (setL_len _) h.b5 (setL_len _) (setL_cell _), st2, q1, ⟨st2.over q3 (fun id e => (h.bo id e).1), ?_, h.b5, ?_, h.n45, ?_, fun id e => ?_⟩⟩
 ·rw [q3.2 _ (by omega) (fun e => (h.bo _ e).2.1 rfl)]; exact g2
 ·rw [q3.2 _ (by omega) (fun e => (h.bo _ e).2.2 rfl)]; exact g42
 ·rw [il_snoc, List.length_append]; exact q2
 ·cases e
  refine ⟨q4, fun e2 => ?_, fun e2 => ?_⟩
  ·cases ho : o6 with
   | none => have := q5 ho; omega
   | some k => have := q6 k ho; exact (h.bo k ho).2.1 (by omega)
  ·cases ho : o6 with
   | none => have := q5 ho; omega
   | some k => have := q6 k ho; exact (h.bo k ho).2.2 (by omega)
end Go.Proofs.Ythjkodbinkiifaa.Am23g
namespace Go.Proofs.Ythjkodbinkiifaa.Am23g
open Go Go.Proofs.Ythjkodbinkiifaa.Am Am23
abbrev p8 (p : Nat) : Value := .pointer (some ⟨p, 0, some 8⟩)
theorem addS_mono {S : Nat → Bool} {u x : Nat} (h : S x = true) : addS S u x = true := by unfold addS; rw [h]; rfl
theorem addS_self (S : Nat → Bool) (u : Nat) : addS S u u = true := by unfold addS; simp
theorem loop44a {G : List (List Int)} (hG : G.length ≤ 512) {F : List Nat} (hF : ∀ f ∈ F, f < G.length) (hFl : F.length ≤ 140737488355328) {H0 : AHeap} {x0 x1 : Value} (hx0 : ∃ a c, x0 = .slice a G.length c) (h1 : Rd H0 3 1 x1 F.length (il (nl F))) {p4 p5 prot : Nat} : ∀ (d i : Nat) (S : Nat → Bool) (todo : List Nat) (x6 : Value) (o6 : Option Nat) (H : AHeap), i + d = F.length → Q H0 H p4 p5 x6 o6 S todo → WI G F S todo G.length → (∀ j f, j < i → F[j]? = some f → S f = true) →
  ∃ S' todo' x' o' H', lpInf (lpOf cfg a75 0 prot H0) ([x0, x1, p8 p4, p8 p5, x6, .int .i64 i], H) = some (.exit 0, [x0, p8 p4, p8 p5, x'], H') ∧ Q H0 H' p4 p5 x' o' S' todo' ∧ WI G F S' todo' G.length ∧ ∀ f ∈ F, S' f = true
 | 0, i, S, todo, x6, o6, H, hi, hq, hw, hd => by
  refine ⟨S, todo, x6, o6, H, ?_, hq, hw, fun f hf => ?_⟩
  ·obtain ⟨_, _, rfl⟩ := hx0
   obtain ⟨_, _, rfl⟩ := h1.len
   obtain ⟨_, _, rfl⟩ := hq.sk.len
   exact lp_last (f75_L0_2 (by omega))
  ·obtain ⟨j, hj⟩ := List.getElem?_of_mem hf
   have := (List.getElem?_eq_some_iff.1 hj).1
   exact hd j f (by omega) hj
 | d + 1, i, S, todo, x6, o6, H, hi, hq, hw, hd => by
  have hil : i < F.length := by omega
  have hu := hF _ (List.getElem_mem hil)
  obtain ⟨id, L, a1, a2⟩ := rd_at T34 (h1.stay hq.st) (nl_get hil)
  have h20 := c20 (S := S) (show F[i] < 512 by omega) H0.length H
  have fi : Fit .i64 ((i : Int) + 1) := fit64 (by omega) (by omega)
  have next : ∀ T : Nat → Bool, (∀ x, S x = true → T x = true) → T F[i] = true → ∀ j f, j < i + 1 → F[j]? = some f → T f = true := fun T h2 h3 j f hj hf => by
   by_cases e : j = i
   ·subst e
    rw [List.getElem?_eq_getElem hil] at hf
    cases hf
    exact h3
   ·exact h2 _ (hd j f (by omega) hf)
  by_cases hs : S F[i] = true
  ·rw [hs] at h20
   obtain ⟨S', todo', x', o', H', z1, z2⟩ := loop44a hG hF hFl hx0 h1 (prot := prot) d (i + 1) S todo x6 o6 H (by omega) hq hw (next S (fun _ h => h) hs)
   refine ⟨S', todo', x', o', H', ?_, z2⟩
   obtain ⟨_, _, rfl⟩ := hx0
   obtain ⟨_, _, rfl⟩ := h1.len
   obtain ⟨_, _, rfl⟩ := hq.sk.len
   exact lp_next (f75_L0_0 (x16 := setA S) (by omega) (slot_get hq.g5) a1 a2 h20 rfl fi) z1
  ·have hs : S F[i] = false := by simpa using hs
   rw [hs] at h20
   have h43 := c43 (S := S) (show F[i] < 512 by omega) H0.length H
   have hlen := hw.cnt
   obtain ⟨H2, a', c', o', H3, k1, k2, k3, k4⟩ := hq.push (u := F[i]) (by omega)
   obtain ⟨id2, L2, b1, b2⟩ := rd_at T34 (h1.stay k2) (nl_get hil)
   obtain ⟨S', todo', x', o2, H', z1, z2⟩ := loop44a hG hF hFl hx0 h1 (prot := prot) d (i + 1) _ _ _ _ H3 (by omega) k4 (hw.push hu hs (.inl (List.getElem_mem hil))) (next _ (fun _ h => addS_mono h) (addS_self _ _))
   refine ⟨S', todo', x', o2, H', ?_, z2⟩
   obtain ⟨_, _, rfl⟩ := hx0
   obtain ⟨_, _, rfl⟩ := h1.len
   obtain ⟨_, _, rfl⟩ := hq.sk.len
   exact lp_next (f75_L0_1 (x16 := setA S) (x23 := setA S) (x28 := setA (addS S F[i])) (by omega) (slot_get hq.g5) a1 a2 h20 rfl (slot_get hq.g5) a1 a2 h43 (setL_len _) k1 b1 b2 k3 fi) z1

theorem loop44c {G : List (List Int)} (hG : Good G) {F : List Nat} {H0 : AHeap} {x0 : Value} (hg : Gr H0 x0 G) {p4 p5 prot v : Nat} (hv : v < G.length) (hR : RF G F v) : ∀ (d i : Nat) (S : Nat → Bool) (todo : List Nat) (x6 : Value) (o6 : Option Nat) (H : AHeap), i + d = G[v].length → Q H0 H p4 p5 x6 o6 S todo → WI G F S todo v → S v = true → (∀ j u, j < i → (sc G v)[j]? = some u → S u = true) →
  ∃ S' todo' x' o' H', lpInf (lpOf cfg a75 2 prot H0) ([x0, p8 p4, p8 p5, x6, .int .i64 v, .int .i64 i], H) = some (.exit 4, [x0, p8 p4, p8 p5, x'], H') ∧ Q H0 H' p4 p5 x' o' S' todo' ∧ WI G F S' todo' G.length ∧ (∀ x, S x = true → S' x = true) ∧ 2 * un G.length S' + todo'.length ≤ 2 * un G.length S + todo.length
 | 0, i, S, todo, x6, o6, H, hi, hq, hw, hsv, hd => by
  obtain ⟨id, L, r, a1, a2, a3⟩ := (hg.stay hq.st).row hv
  refine ⟨S, todo, x6, o6, H, ?_, hq, ⟨hw.sound, hw.low, hw.inS, fun x hx h2 _ u hu => ?_, hw.cnt⟩, fun _ h => h, Nat.le_refl _⟩
  ·obtain ⟨_, _, rfl⟩ := hg.len
   obtain ⟨_, _, rfl⟩ := hq.sk.len
   obtain ⟨_, _, rfl⟩ := a3.len
   exact lp_last (f75_L2_2 a1 a2 (by omega))
  ·by_cases e : x = v
   ·subst e
    obtain ⟨j, hj⟩ := List.getElem?_of_mem hu
    have := (List.getElem?_eq_some_iff.1 hj).1
    rw [sc_len hv] at this
    exact hd j u (by omega) hj
   ·exact hw.clo x hx h2 e u hu
 | d + 1, i, S, todo, x6, o6, H, hi, hq, hw, hsv, hd => by
  have hG5 := hG.1
  have hil : i < G[v].length := by omega
  have hshort := hG.2.1 _ (List.getElem_mem hv)
  obtain ⟨u, hue, hul, hsc⟩ := sc_get hG hv hil
  obtain ⟨id, L, r, a1, a2, a3⟩ := (hg.stay hq.st).row hv
  obtain ⟨id3, L3, d1, d2⟩ := rd_at T34 a3 (il_get hil)
  rw [hue] at d2
  have h20 := c20 (S := S) (show u < 512 by omega) H0.length H
  have fi : Fit .i64 ((i : Int) + 1) := fit64 (by omega) (by omega)
  have next : ∀ T : Nat → Bool, (∀ x, S x = true → T x = true) → T u = true → ∀ j w, j < i + 1 → (sc G v)[j]? = some w → T w = true := fun T h2 h3 j f hj hf => by
   by_cases e : j = i
   ·subst e
    rw [hsc] at hf
    cases hf
    exact h3
   ·exact h2 _ (hd j f (by omega) hf)
  by_cases hs : S u = true
  ·rw [hs] at h20
   obtain ⟨S', todo', x', o', H', z1, z2⟩ := loop44c hG hg (prot := prot) hv hR d (i + 1) S todo x6 o6 H (by omega) hq hw hsv (next S (fun _ h => h) hs)
   refine ⟨S', todo', x', o', H', ?_, z2⟩
   obtain ⟨_, _, rfl⟩ := hg.len
   obtain ⟨_, _, rfl⟩ := hq.sk.len
   obtain ⟨_, _, rfl⟩ := a3.len
   exact lp_next (f75_L2_0 (x59 := setA S) a1 a2 (by omega) (slot_get hq.g5) a1 a2 d1 d2 h20 rfl fi) z1
  ·have hs : S u = false := by simpa using hs
   rw [hs] at h20
   have h43 := c43 (S := S) (show u < 512 by omega) H0.length H
   have hlen := hw.cnt
   obtain ⟨H2, a', c', o', H3, k1, k2, k3, k4⟩ := hq.push (u := u) (by omega)
   obtain ⟨id2, L2, r2, b1, b2, b3⟩ := (hg.stay k2).row hv
   obtain ⟨id4, L4, e1, e2⟩ := rd_at T34 b3 (il_get hil)
   rw [hue] at e2
   have hun := un_add hs G.length
   rw [if_pos hul] at hun
   obtain ⟨S', todo', x', o2, H', z1, z2, z3, z4, z5⟩ := loop44c hG hg (prot := prot) hv hR d (i + 1) _ _ _ _ H3 (by omega) k4 (hw.push hul hs (hR.step (List.mem_of_getElem? hsc))) (addS_mono hsv) (next _ (fun _ h => addS_mono h) (addS_self _ _))
   rw [List.length_append, List.length_singleton] at z5
   refine ⟨S', todo', x', o2, H', ?_, z2, z3, fun x hx => z4 x (addS_mono hx), by omega⟩
   obtain ⟨_, _, rfl⟩ := hg.len
   obtain ⟨_, _, rfl⟩ := hq.sk.len
   obtain ⟨_, _, rfl⟩ := a3.len
   obtain ⟨_, _, rfl⟩ := b3.len
   exact lp_next (f75_L2_1 (x59 := setA S) (x69 := setA S) (x77 := setA (addS S u)) a1 a2 (by omega) (slot_get hq.g5) a1 a2 d1 d2 h20 rfl (slot_get hq.g5) a1 a2 d1 d2 h43 (setL_len _) k1 b1 b2 e1 e2 k3 fi) z1

theorem loop44b {G : List (List Int)} (hG : Good G) {F : List Nat} {H0 : AHeap} {x0 : Value} (hg : Gr H0 x0 G) {p4 p5 prot : Nat} : ∀ (N : Nat) (S : Nat → Bool) (todo : List Nat) (x6 : Value) (o6 : Option Nat) (H : AHeap), 2 * un G.length S + todo.length < N → Q H0 H p4 p5 x6 o6 S todo → WI G F S todo G.length → (∀ f ∈ F, S f = true) →
  ∃ S' x' o' H', lpInf (lpOf cfg a75 1 prot H0) ([x0, p8 p4, p8 p5, x6], H) = some (.exit 2, [p8 p4, p8 p5], H') ∧ Q H0 H' p4 p5 x' o' S' [] ∧ ∀ x, S' x = rfS G F x
 | 0, S, todo, x6, o6, H, hN, hq, hw, hF => by omega
 | N + 1, S, todo, x6, o6, H, hN, hq, hw, hF => by
  have hG5 := hG.1
  cases ht : todo.getLast? with
  | none =>
   have h0 : todo = [] := List.getLast?_eq_none_iff.1 ht
   subst h0
   refine ⟨S, x6, o6, H, ?_, hq, hw.done hF⟩
   obtain ⟨_, _, rfl⟩ := hg.len
   obtain ⟨_, _, rfl⟩ := hq.sk.len
   exact lp_last (f75_L1_1 (by simp))
  | some v =>
   obtain ⟨t, rfl⟩ : ∃ t, todo = t ++ [v] := ⟨todo.dropLast, by
    have hne : todo ≠ [] := fun h => by rw [h] at ht; cases ht
    rw [List.getLast?_eq_some_getLast hne] at ht
    have := List.dropLast_concat_getLast hne
    rw [Option.some.inj ht] at this
    exact this.symm⟩
   have hsv : S v = true := hw.inS v (by simp)
   have hv := hw.low v hsv
   have hR := hw.sound v hsv
   have hcnt := hw.cnt
   rw [List.length_append, List.length_singleton] at hcnt hN
   have hk := hq.sk
   have hn : (t ++ [v]).length = t.length + 1 := by simp
   rw [hn] at hk
   have hlast : (il (nl (t ++ [v])))[t.length]? = some (.int .i64 (v : Int)) := by rw [il_snoc, List.getElem?_append_right (by simp [il, nl])]; simp [il, nl]
   obtain ⟨id, L, a1, a2⟩ := rd_last T34 hk.rd hlast
   obtain ⟨a', c', s1, s2⟩ := stk_pop T34 hk (by omega)
   have hdl : (il (nl (t ++ [v]))).dropLast = il (nl t) := by rw [il_snoc, List.dropLast_concat]
   rw [hdl, Nat.add_sub_cancel] at s2
   have hq2 : Q H0 H p4 p5 (.slice a' (t.length + 1 - 1) c') o6 S t := ⟨hq.st, hq.g5, hq.b5, hq.g4, hq.n45, by rw [Nat.add_sub_cancel]; exact s2, hq.bo⟩
   have hw2 : WI G F S t v := ⟨hw.sound, hw.low, fun x hx => hw.inS x (by simp [hx]), fun x hx h1 h2 u hu => hw.clo x hx (by simp [h1, h2]) (by have := hw.low x hx; omega) u hu, by omega⟩
   obtain ⟨S', t', x', o', H', z1, z2, z3, z4, z5⟩ := loop44c hG hg (prot := prot) hv hR G[v].length 0 S t _ o6 H (by omega) hq2 hw2 hsv (fun j u hj => by omega)
   obtain ⟨S2, x2, o2, H2, w1, w2, w3⟩ := loop44b hG hg (prot := prot) N S' t' x' o' H' (by omega) z2 z3 (fun f hf => z4 f (hF f hf))
   refine ⟨S2, x2, o2, H2, ?_, w2, w3⟩
   obtain ⟨_, _, rfl⟩ := hg.len
   obtain ⟨_, _, rfl⟩ := hk.len
   obtain ⟨_, _, rfl⟩ := z2.sk.len
   exact lp_next (f75_L1_0 (by omega) (fit64 (by omega) (by omega)) a1 a2 s1 z1) w1

theorem c44 {G : List (List Int)} (hG : Good G) {F : List Nat} (hF : ∀ f ∈ F, f < G.length) (hFl : F.length ≤ 140737488355328) {x0 x1 : Value} (prot : Nat) {H : AHeap} (hg : Gr H x0 G) (h1 : Rd H 3 1 x1 F.length (il (nl F))) :
  callInf cfg 75 [x0, x1] prot H = some (.agg (setA (rfS G F)), H) := by
 obtain ⟨HA, hHA⟩ : ∃ HA, HA = H ++ [AObj.cells (setL noS) 99 8 .var] := ⟨_, rfl⟩
 have lA : HA.length = H.length + 1 := by rw [hHA, List.length_append, List.length_singleton]
 have sA : Stay none H HA := by rw [hHA]; exact Stay.app none H _
 have a1 := al39 H
 rw [← hHA] at a1
 have gA : HA[H.length]? = some (.cells (setL noS) 99 8 .var) := by rw [hHA]; exact append_get.1
 obtain ⟨HB, hHB⟩ : ∃ HB, HB = HA ++ [AObj.cells (setL noS) 99 8 .var] := ⟨_, rfl⟩
 have lB : HB.length = H.length + 2 := by rw [hHB, List.length_append, List.length_singleton]; omega
 have sB : Stay none HA HB := by rw [hHB]; exact Stay.app none HA _
 have a2 := al39 HA
 rw [← hHB] at a2
 have gB : HB[HA.length]? = some (.cells (setL noS) 99 8 .var) := by rw [hHB]; exact append_get.1
 have gB0 : HB[H.length]? = some (.cells (setL noS) 99 8 .var) := by rw [sB.2 _ (by omega) (by simp)]; exact gA
 have hq : Q H HB H.length HA.length (.slice none 0 0) none noS [] := ⟨sA.trans sB, gB, by omega, gB0, by omega, stk_nil, fun id e => by cases e⟩
 obtain ⟨S1, t1, x1', o1, H3, z1, z2, z3, z4⟩ := loop44a hG.1 hF hFl hg.len h1 (prot := prot) F.length 0 noS [] _ none HB (by omega) hq (WI.start G F G.length) (fun j f hj => by omega)
 obtain ⟨S2, x2, o2, H4, w1, w2, w3⟩ := loop44b hG hg (prot := prot) _ S1 t1 x1' o1 H3 (Nat.lt_succ_self _) z2 z3 z4
 have hT : setL S2 = setL (rfS G F) := setL_congr fun x _ => w3 x
 have g5 := w2.g5
 rw [hT] at g5
 have g4 := w2.g4
 obtain ⟨H5, hH5⟩ : ∃ H5, H5 = H4.set H.length (.cells (setL (rfS G F)) 99 8 .var) := ⟨_, rfl⟩
 have e5 : setCells H4 H.length H.length 8 0 (setL (rfS G F)) = some H5 := by rw [hH5]; exact arr_put g4 (setL_len _) (Nat.le_refl _) (setL_len _) (setL_cell _)
 have gF : H5[H.length]? = some (.cells (setL (rfS G F)) 99 8 .var) := by rw [hH5, List.getElem?_set_self (List.getElem?_eq_some_iff.1 g4).1]
 obtain ⟨_, _, rfl⟩ := hg.len
 obtain ⟨_, _, rfl⟩ := h1.len
 obtain ⟨_, _, rfl⟩ := z2.sk.len
 exact f75_F_0 (x88 := setA (rfS G F)) (w := setA (rfS G F)) _ _ a1 a2 z1 w1 (arr_all g5 (setL_len _)) (setL_len _) e5 (arr_all gF (setL_len _)) (pf_plain rfl (by rw [List.all_cons, setA_plain]; rfl))
end Go.Proofs.Ythjkodbinkiifaa.Am23g
namespace Go.Proofs.Ythjkodbinkiifaa.Am
open Go

/-! ### Arrays of whole numbers as keys -/
end Go.Proofs.Ythjkodbinkiifaa.Am
namespace Go.Proofs.Ythjkodbinkiifaa.Am23g
open Go Go.Proofs.Ythjkodbinkiifaa.Am Am23
theorem rfS_one (G : List (List Int)) (v : Nat) : rfS G [v] = rs G v := by
 funext x
 rw [Bool.eq_iff_iff, rfS_iff, rs_iff]
 unfold RF
 simp
end Go.Proofs.Ythjkodbinkiifaa.Am23g
set_option linter.unusedVariables false
namespace Go.Proofs.Ythjkodbinkiifaa.Am23g
open Go Go.Proofs.Ythjkodbinkiifaa.Am Am23
section
variable {x0a z3a x3a x16a x17a : Option Addr}
variable {x0n x0c prot z3n z3c x3n x3c x16n x16c x17n x17c : Nat}
variable {H H1 H0 H2 H3 : AHeap}
variable {x4 : Int}
variable {x15 : Array Value}
theorem f61_F_0 (rv : Value) (rH : AHeap) (h1 : lI a61 0 prot H ([vS x0a x0n x0c, vS none 0 0, vI 0], H) = some (Ex.exit 0, [vS z3a z3n z3c], H1)) (h2 : pfin a61 H [vS z3a z3n z3c] H1 = (rv, rH)) : callInf cfg 61 [.slice x0a x0n x0c] prot H = some (rv, rH) :=
 fn_of2 a61 [.lo (.exit 0, [vS z3a z3n z3c], H1)] (ai h1 h2) (by kernel_rfl) rfl
theorem f61_L0_0 (h1 : x4 < (↑x0n : Int)) (h2 : cI 75 [vS x0a x0n x0c, vS (some ⟨H.length, 0, some (1 * 1)⟩) 1 1] H0.length (H ++ [wo [vI x4] 3]) = some (Value.agg x15, H ++ [wo [vI x4] 3])) (h3 : abuildSlice cfg.P 93 1 [(0, Value.agg x15)] (H ++ [wo [vI x4] 3]) = some (vS x16a x16n x16c, H2)) (h4 : aappend cfg.P H0.length true 93 93 (vS x3a x3n x3c) (vS x16a x16n x16c) H2 = some (vS x17a x17n x17c, H3)) (h5 : Fit .i64 (x4 + 1)) : lpOf cfg a61 0 prot H0 ([.slice x0a x0n x0c, .slice x3a x3n x3c, .int .i64 x4], H) = some (Sum.inl ([Value.slice x0a x0n x0c, Value.slice x17a x17n x17c, Value.int .i64 (x4 + 1)], H3)) :=
 lp_of2 [.e, .e, .b true, .e, .v (.agg x15), .r (vS x16a x16n x16c) H2, .r (vS x17a x17n x17c) H3, .e] (ai (decide_eq_true h1) (ai h2 (ai h3 (ai h4 (ai h5 (Eq.refl (Sum.inl ([vS x0a x0n x0c, vS x17a x17n x17c, vI (x4 + 1)], H3) : LS ⊕ LO))))))) (by kernel_rfl)
theorem f61_L0_1 (h1 : ¬(x4 < (↑x0n : Int))) : lpOf cfg a61 0 prot H0 ([.slice x0a x0n x0c, .slice x3a x3n x3c, .int .i64 x4], H) = some (Sum.inr (Ex.exit 0, [Value.slice x3a x3n x3c], H)) :=
 lp_of2 [.e, .e, .b false] (ai (decide_eq_false h1) (Eq.refl (Sum.inr (Ex.exit 0, [vS x3a x3n x3c], H) : LS ⊕ LO))) (by kernel_rfl)
end
end Go.Proofs.Ythjkodbinkiifaa.Am23g
set_option linter.unusedVariables false
namespace Go.Proofs.Ythjkodbinkiifaa.Am23g
open Go Go.Proofs.Ythjkodbinkiifaa.Am Am23
section
variable {x0a z4a x4a z0a x50a : Option Addr}
variable {x0n x0c prot z4n z4c x4n x4c z0n z0c x50n x50c x26p x26o x26l x33p x33o x33l x40p x40o x40l : Nat}
variable {H H1 H0 H2 H3 : AHeap}
variable {z5 x5 x6 z6 z7 x7 x8 x41 : Int}
variable {x27 x34 : Array Value}
variable {x29 x36 : Bool}
theorem f60_F_0 (rv : Value) (rH : AHeap) (h1 : lI a60 0 prot H ([vS x0a x0n x0c, vS none 0 0, vI 0, vI 0], H) = some (Ex.exit 0, [vS z4a z4n z4c, vI z5], H1)) (h2 : pfin a60 H [vS z4a z4n z4c, vI z5] H1 = (rv, rH)) : callInf cfg 60 [.slice x0a x0n x0c] prot H = some (rv, rH) :=
 fn_of2 a60 [.lo (.exit 0, [vS z4a z4n z4c, vI z5], H1)] (ai h1 h2) (by kernel_rfl) rfl
theorem f60_L0_0 (h1 : x6 < (↑x0n : Int)) (h2 : lI a60 1 prot H0 ([vS x0a x0n x0c, vS x4a x4n x4c, vI x5, vI x6, vI (-1), vI 0], H) = some (Ex.exit 2, [vS z0a z0n z0c, vS z4a z4n z4c, vI z5, vI z6, vI z7], H2)) (h3 : z7 < 0) (h4 : Fit .i64 (z5 + 1)) (h5 : aappend cfg.P H0.length true 22 22 (vS z4a z4n z4c) (vS (some ⟨H2.length, 0, some (1 * 1)⟩) 1 1) (H2 ++ [wo [vI z5] 3]) = some (vS x50a x50n x50c, H3)) (h6 : Fit .i64 (z6 + 1)) : lpOf cfg a60 0 prot H0 ([.slice x0a x0n x0c, .slice x4a x4n x4c, .int .i64 x5, .int .i64 x6], H) = some (Sum.inl ([Value.slice z0a z0n z0c, Value.slice x50a x50n x50c, Value.int .i64 (z5 + 1), Value.int .i64 (z6 + 1)], H3)) :=
 lp_of2 [.e, .e, .b true, .lo (.exit 2, [vS z0a z0n z0c, vS z4a z4n z4c, vI z5, vI z6, vI z7], H2), .e, .b true, .e, .e, .r (vS x50a x50n x50c) H3, .e] (ai (decide_eq_true h1) (ai h2 (ai (decide_eq_true h3) (ai h4 (ai h5 (ai h6 (Eq.refl (Sum.inl ([vS z0a z0n z0c, vS x50a x50n x50c, vI (z5 + 1), vI (z6 + 1)], H3) : LS ⊕ LO)))))))) (by kernel_rfl)
theorem f60_L0_1 (h1 : x6 < (↑x0n : Int)) (h2 : lI a60 1 prot H0 ([vS x0a x0n x0c, vS x4a x4n x4c, vI x5, vI x6, vI (-1), vI 0], H) = some (Ex.exit 2, [vS z0a z0n z0c, vS z4a z4n z4c, vI z5, vI z6, vI z7], H2)) (h3 : ¬(z7 < 0)) (h4 : aappend cfg.P H0.length true 22 22 (vS z4a z4n z4c) (vS (some ⟨H2.length, 0, some (1 * 1)⟩) 1 1) (H2 ++ [wo [vI z7] 3]) = some (vS x50a x50n x50c, H3)) (h5 : Fit .i64 (z6 + 1)) : lpOf cfg a60 0 prot H0 ([.slice x0a x0n x0c, .slice x4a x4n x4c, .int .i64 x5, .int .i64 x6], H) = some (Sum.inl ([Value.slice z0a z0n z0c, Value.slice x50a x50n x50c, Value.int .i64 z5, Value.int .i64 (z6 + 1)], H3)) :=
 lp_of2 [.e, .e, .b true, .lo (.exit 2, [vS z0a z0n z0c, vS z4a z4n z4c, vI z5, vI z6, vI z7], H2), .e, .b false, .e, .r (vS x50a x50n x50c) H3, .e] (ai (decide_eq_true h1) (ai h2 (ai (decide_eq_false h3) (ai h4 (ai h5 (Eq.refl (Sum.inl ([vS z0a z0n z0c, vS x50a x50n x50c, vI z5, vI (z6 + 1)], H3) : LS ⊕ LO))))))) (by kernel_rfl)
theorem f60_L0_2 (h1 : ¬(x6 < (↑x0n : Int))) : lpOf cfg a60 0 prot H0 ([.slice x0a x0n x0c, .slice x4a x4n x4c, .int .i64 x5, .int .i64 x6], H) = some (Sum.inr (Ex.exit 0, [Value.slice x4a x4n x4c, Value.int .i64 x5], H)) :=
 lp_of2 [.e, .e, .b false] (ai (decide_eq_false h1) (Eq.refl (Sum.inr (Ex.exit 0, [vS x4a x4n x4c, vI x5], H) : LS ⊕ LO))) (by kernel_rfl)
theorem f60_L1_0 (h1 : x8 < x6) (h2 : x7 < 0) (h3 : aX 93 (vS x0a x0n x0c) (vI x6) = some (vP x26p x26o x26l)) (h4 : getCells H x26p x26l x26o 8 = some x27.toList) (h5 : cI 63 [Value.agg x27, vI x8] H0.length H = some (Value.bool x29, H)) (h6 : x29 = true) (h7 : aX 93 (vS x0a x0n x0c) (vI x8) = some (vP x33p x33o x33l)) (h8 : getCells H x33p x33l x33o 8 = some x34.toList) (h9 : cI 63 [Value.agg x34, vI x6] H0.length H = some (Value.bool x36, H)) (h10 : x36 = true) (h11 : aX 22 (vS x4a x4n x4c) (vI x8) = some (vP x40p x40o x40l)) (h12 : getCells H x40p x40l x40o 1 = some [vI x41]) (h13 : Fit .i64 (x8 + 1)) : lpOf cfg a60 1 prot H0 ([.slice x0a x0n x0c, .slice x4a x4n x4c, .int .i64 x5, .int .i64 x6, .int .i64 x7, .int .i64 x8], H) = some (Sum.inl ([Value.slice x0a x0n x0c, Value.slice x4a x4n x4c, Value.int .i64 x5, Value.int .i64 x6, Value.int .i64 x41, Value.int .i64 (x8 + 1)], H)) :=
 lp_of2 [.e, .b true, .b true, .e, .b true, .b true, .v (vP x26p x26o x26l), .v (.agg x27), .v (.bool x29), .b true, .b true, .b true, .v (vP x33p x33o x33l), .b true, .v (.agg x34), .b true, .b true, .v (.bool x36), .b true, .b true, .v (vP x40p x40o x40l), .v (vI x41), .e] (ai (decide_eq_true h1) (ai (decide_eq_true h1) (ai (decide_eq_true h1) (ai (decide_eq_true h2) (ai h3 (ai h4 (ai h5 (ai h6 (ai h6 (ai h6 (ai h7 (ai h6 (ai h8 (ai h6 (ai h6 (ai h9 (ai h6 (ai h10 (ai h11 (ai h12 (ai h13 (Eq.refl (Sum.inl ([vS x0a x0n x0c, vS x4a x4n x4c, vI x5, vI x6, vI x41, vI (x8 + 1)], H) : LS ⊕ LO))))))))))))))))))))))) (by kernel_rfl)
theorem f60_L1_1 (h1 : x8 < x6) (h2 : x7 < 0) (h3 : aX 93 (vS x0a x0n x0c) (vI x6) = some (vP x26p x26o x26l)) (h4 : getCells H x26p x26l x26o 8 = some x27.toList) (h5 : cI 63 [Value.agg x27, vI x8] H0.length H = some (Value.bool x29, H)) (h6 : x29 = true) (h7 : aX 93 (vS x0a x0n x0c) (vI x8) = some (vP x33p x33o x33l)) (h8 : getCells H x33p x33l x33o 8 = some x34.toList) (h9 : cI 63 [Value.agg x34, vI x6] H0.length H = some (Value.bool x36, H)) (h10 : x36 = false) (h11 : Fit .i64 (x8 + 1)) : lpOf cfg a60 1 prot H0 ([.slice x0a x0n x0c, .slice x4a x4n x4c, .int .i64 x5, .int .i64 x6, .int .i64 x7, .int .i64 x8], H) = some (Sum.inl ([Value.slice x0a x0n x0c, Value.slice x4a x4n x4c, Value.int .i64 x5, Value.int .i64 x6, Value.int .i64 x7, Value.int .i64 (x8 + 1)], H)) :=
 lp_of2 [.e, .b true, .b true, .e, .b true, .b true, .v (vP x26p x26o x26l), .v (.agg x27), .v (.bool x29), .b true, .b true, .b true, .v (vP x33p x33o x33l), .b true, .v (.agg x34), .b true, .b true, .v (.bool x36), .b true, .b false, .e] (ai (decide_eq_true h1) (ai (decide_eq_true h1) (ai (decide_eq_true h1) (ai (decide_eq_true h2) (ai h3 (ai h4 (ai h5 (ai h6 (ai h6 (ai h6 (ai h7 (ai h6 (ai h8 (ai h6 (ai h6 (ai h9 (ai h6 (ai h10 (ai h11 (Eq.refl (Sum.inl ([vS x0a x0n x0c, vS x4a x4n x4c, vI x5, vI x6, vI x7, vI (x8 + 1)], H) : LS ⊕ LO))))))))))))))))))))) (by kernel_rfl)
theorem f60_L1_2 (h1 : x8 < x6) (h2 : x7 < 0) (h3 : aX 93 (vS x0a x0n x0c) (vI x6) = some (vP x26p x26o x26l)) (h4 : getCells H x26p x26l x26o 8 = some x27.toList) (h5 : cI 63 [Value.agg x27, vI x8] H0.length H = some (Value.bool x29, H)) (h6 : x29 = false) (h7 : Fit .i64 (x8 + 1)) : lpOf cfg a60 1 prot H0 ([.slice x0a x0n x0c, .slice x4a x4n x4c, .int .i64 x5, .int .i64 x6, .int .i64 x7, .int .i64 x8], H) = some (Sum.inl ([Value.slice x0a x0n x0c, Value.slice x4a x4n x4c, Value.int .i64 x5, Value.int .i64 x6, Value.int .i64 x7, Value.int .i64 (x8 + 1)], H)) :=
 lp_of2 [.e, .b true, .b true, .e, .b true, .b true, .v (vP x26p x26o x26l), .v (.agg x27), .v (.bool x29), .b false, .b false, .b false, .b false, .b false, .b false, .b false, .b false, .e] (ai (decide_eq_true h1) (ai (decide_eq_true h1) (ai (decide_eq_true h1) (ai (decide_eq_true h2) (ai h3 (ai h4 (ai h5 (ai h6 (ai h6 (ai h6 (ai h6 (ai h6 (ai h6 (ai h6 (ai (Eq.refl false) (ai h7 (Eq.refl (Sum.inl ([vS x0a x0n x0c, vS x4a x4n x4c, vI x5, vI x6, vI x7, vI (x8 + 1)], H) : LS ⊕ LO)))))))))))))))))) (by kernel_rfl)
theorem f60_L1_3 (h1 : x8 < x6) (h2 : ¬(x7 < 0)) : lpOf cfg a60 1 prot H0 ([.slice x0a x0n x0c, .slice x4a x4n x4c, .int .i64 x5, .int .i64 x6, .int .i64 x7, .int .i64 x8], H) = some (Sum.inr (Ex.exit 2, [Value.slice x0a x0n x0c, Value.slice x4a x4n x4c, Value.int .i64 x5, Value.int .i64 x6, Value.int .i64 x7], H)) :=
 lp_of2 [.e, .b true, .b true, .e, .b true, .b false] (ai (decide_eq_true h1) (ai (decide_eq_true h1) (ai (decide_eq_true h1) (ai (decide_eq_false h2) (Eq.refl (Sum.inr (Ex.exit 2, [vS x0a x0n x0c, vS x4a x4n x4c, vI x5, vI x6, vI x7], H) : LS ⊕ LO)))))) (by kernel_rfl)
theorem f60_L1_4 (h1 : ¬(x8 < x6)) : lpOf cfg a60 1 prot H0 ([.slice x0a x0n x0c, .slice x4a x4n x4c, .int .i64 x5, .int .i64 x6, .int .i64 x7, .int .i64 x8], H) = some (Sum.inr (Ex.exit 2, [Value.slice x0a x0n x0c, Value.slice x4a x4n x4c, Value.int .i64 x5, Value.int .i64 x6, Value.int .i64 x7], H)) :=
 lp_of2 [.e, .b false, .b false, .b false, .b false] (ai (decide_eq_false h1) (ai (decide_eq_false h1) (ai (decide_eq_false h1) (ai (Eq.refl false) (Eq.refl (Sum.inr (Ex.exit 2, [vS x0a x0n x0c, vS x4a x4n x4c, vI x5, vI x6, vI x7], H) : LS ⊕ LO)))))) (by kernel_rfl)
end
end Go.Proofs.Ythjkodbinkiifaa.Am23g
namespace Go.Proofs.Ythjkodbinkiifaa.Am23g
open Go Go.Proofs.Ythjkodbinkiifaa.Am Am23
theorem abuild46 (H : AHeap) (S : Nat → Bool) : abuildSlice cfg.P 93 1 [(0, .agg (setA S))] H = some (.slice (some ⟨H.length, 0, some (1 * 8)⟩) 1 1, H ++ [.cells (setL S) 99 (setL S).length .row]) := by
 unfold abuildSlice
 rw [T46.sl, Option.bind_some, T46.sz, Option.bind_some, if_neg (by omega), if_neg (by omega)]
 have hz : tzero cfg.P 99 = some (.agg ((List.replicate 8 (.int .u64 0)).toArray)) := z39
 rw [hz, Option.bind_some]
 have hc : cellsOf (.agg ((List.replicate 8 (Value.int .u64 0)).toArray)) = List.replicate 8 (.int .u64 0) := rfl
 rw [hc, if_pos (by exact ⟨rfl, rfl⟩)]
 have hf : afill (fun i => some (i * 8, 8)) (repCells (List.replicate 8 (.int .u64 0)) 1) [(0, .agg (setA S))] = some (setL S) := by
  have hr : repCells (List.replicate 8 (Value.int .u64 0)) 1 = List.replicate 8 (.int .u64 0) := by simp [repCells]
  rw [hr]
  unfold afill
  have hl := setL_len S
  have hcs : cellsOf (.agg (setA S)) = setL S := rfl
  simp [hcs, hl, putList, setL_cell, afill]
 rw [hf]
 rfl
theorem sets_snoc (A : Nat → Nat → Bool) (n : Nat) : sets A n ++ setL (A n) = sets A (n + 1) := (sets_succ A n).symm
theorem loop42 {G : List (List Int)} (hG : Good G) {x0 : Value} {H0 : AHeap} (hg : Gr H0 x0 G) {prot : Nat} : ∀ (d i : Nat) (x3 : Value) (o : Option Nat) (H : AHeap), i + d = G.length → Stay none H0 H → Own H 99 8 x3 o i (sets (rs G) i) → (∀ id, o = some id → H0.length ≤ id) →
  ∃ x' o' H', lpInf (lpOf cfg a61 0 prot H0) ([x0, x3, .int .i64 i], H) = some (.exit 0, [x'], H') ∧ Own H' 99 8 x' o' G.length (sets (rs G) G.length) ∧ (∀ id, o' = some id → H0.length ≤ id) ∧ Stay none H0 H'
 | 0, i, x3, o, H, hi, hst, hx, ho => by
  have he : i = G.length := by omega
  subst he
  refine ⟨x3, o, H, ?_, hx, ho, hst⟩
  obtain ⟨_, _, rfl⟩ := hg.len
  obtain ⟨_, _, rfl⟩ := hx.len
  exact lp_last (f61_L0_1 (by omega))
 | d + 1, i, x3, o, H, hi, hst, hx, ho => by
  have h5 := hG.1
  have hil : i < G.length := by omega
  obtain ⟨HB, hHB⟩ : ∃ HB, HB = H ++ [wo [.int .i64 (i : Int)] 3] := ⟨_, rfl⟩
  have sB : Stay none H HB := by rw [hHB]; exact Stay.app none H _
  have hrow : Rd HB 3 1 (.slice (some ⟨H.length, 0, some (1 * 1)⟩) 1 1) [i].length (il (nl [i])) := by rw [hHB]; exact (own_new rfl (by omega) rfl rfl).rd
  have h44 := c44 hG (F := [i]) (fun f hf => by rw [List.mem_singleton.1 hf]; exact hil) (by simp) H0.length (hg.stay (hst.trans sB)) hrow
  rw [rfS_one, hHB] at h44
  have hb := abuild46 HB (rs G i)
  have hxB := hx.stay sB (fun id _ e => by cases e)
  have hl0 := (hst.trans sB).1
  obtain ⟨a', c', o', H3, q1, q2, q3, q4, q5, q6⟩ := own_app T46 hxB (ecs := setL (rs G i)) (setL_len _) (setL_cell _) (prot := H0.length) (room := true) ho hl0 (by omega) (L := 1 * 8) rfl (el := (setL (rs G i)).length) rfl
  rw [sets_snoc] at q2
  have hst3 : Stay none H0 H3 := (hst.trans sB).over q3 ho
  obtain ⟨x', o2, H', z1, z2⟩ := loop42 hG hg (prot := prot) d (i + 1) _ (some o') H3 (by omega) hst3 q2 (fun id e => by cases e; exact q4)
  refine ⟨x', o2, H', ?_, z2⟩
  rw [hHB] at hb q1
  obtain ⟨_, _, rfl⟩ := hg.len
  obtain ⟨_, _, rfl⟩ := hx.len
  exact lp_next (f61_L0_0 (by omega) h44 hb q1 (fit64 (by omega) (by omega))) z1
theorem c42 {G : List (List Int)} (hG : Good G) {x0 : Value} (prot : Nat) {H : AHeap} (hg : Gr H x0 G) : ∃ x' H', callInf cfg 61 [x0] prot H = some (x', H') ∧ OwnS H' 99 8 x' G.length (sets (rs G) G.length) H.length ∧ Stay none H H' := by
 obtain ⟨x1, o1, H1, z1, z2, z3, z4⟩ := loop42 hG hg (prot := prot) G.length 0 (.slice none 0 0) none H (by omega) (Stay.refl _ _) own_nil (fun id h => by cases h)
 obtain ⟨x', H', g1, g2, g3⟩ := gcS (.inl ⟨o1, z2, z3⟩) (sets_plain _ _) (ps := []) rfl
 refine ⟨x', H', ?_, g2, g3⟩
 obtain ⟨_, _, rfl⟩ := hg.len
 obtain ⟨_, _, rfl⟩ := z2.len
 exact f61_F_0 _ _ z1 (by rw [pfin_eq, if_neg (by simp [a61])]; exact g1)

/-! ### Numbers -/
theorem sets_rdP {H : AHeap} {x : Value} {n : Nat} {A : Nat → Nat → Bool} (h : Rd H 99 8 x n (sets A n)) {k : Nat} (hk : k < n) :
  ∃ id L, aindexAddr cfg.P 93 x (.int .i64 (k : Nat)) = some (.pointer (some ⟨id, k * 8, some L⟩)) ∧ getCells H id L (k * 8) 8 = some (setA (A k)).toList := by
 obtain ⟨id, L, a, b⟩ := rd_atS T46 h hk
 have := b 0 8 (Nat.le_refl _)
 rw [Nat.add_zero, sets_get A n hk] at this
 exact ⟨id, L, a, this⟩
theorem loop41i {G : List (List Int)} (h5 : G.length ≤ 512) {x0 x4 : Value} {H0 H : AHeap} {prot : Nat} (h0 : Rd H 99 8 x0 G.length (sets (rs G) G.length)) {out : List Nat} {v : Nat} (hv : v < G.length) (hl : out.length = v) (h4 : Rd H 3 1 x4 v (il (nl out))) {n : Int} : ∀ (d u : Nat), u + d = v →
  lpInf (lpOf cfg a60 1 prot H0) ([x0, x4, .int .i64 n, .int .i64 v, .int .i64 (-1), .int .i64 u], H) = some (.exit 2, [x0, x4, .int .i64 n, .int .i64 v, .int .i64 (match findM (mu G v) d u with | some w => ((out.getD w 0 : Nat) : Int) | none => -1)], H)
 | 0, u, hu => by
  obtain ⟨_, _, rfl⟩ := h0.len
  obtain ⟨_, _, rfl⟩ := h4.len
  exact lp_last (f60_L1_4 (by omega))
 | d + 1, u, hu => by
  have hul : u < v := by omega
  obtain ⟨i1, L1, p1, q1⟩ := sets_rdP h0 hv
  obtain ⟨i2, L2, p2, q2⟩ := sets_rdP h0 (show u < G.length by omega)
  have c1 := c20 (S := rs G v) (show u < 512 by omega) H0.length H
  have c2 := c20 (S := rs G u) (show v < 512 by omega) H0.length H
  have fi : Fit .i64 ((u : Int) + 1) := fit64 (by omega) (by omega)
  have hvu : rs G v u = true ↔ Rch G v u := by
   rw [rs_iff]
   refine ⟨fun h => ?_, .inr⟩
   rcases h with h | h
   ·omega
   ·exact h
  have huv : rs G u v = true ↔ Rch G u v := by
   rw [rs_iff]
   refine ⟨fun h => ?_, .inr⟩
   rcases h with h | h
   ·omega
   ·exact h
  rw [findM]
  cases e1 : rs G v u with
  | false =>
   have hm : mu G v u = false := by
    rw [Bool.eq_false_iff]; intro h
    have := hvu.2 (mu_iff.1 h).1
    rw [e1] at this; cases this
   rw [hm, if_neg (by simp)]
   rw [e1] at c1
   have ih := loop41i h5 h0 hv hl h4 (n := n) (H0 := H0) (prot := prot) d (u + 1) (by omega)
   obtain ⟨_, _, rfl⟩ := h0.len
   obtain ⟨_, _, rfl⟩ := h4.len
   exact lp_next (f60_L1_2 (x27 := setA (rs G v)) (by omega) (by omega) p1 q1 c1 rfl fi) ih
  | true =>
   rw [e1] at c1
   cases e2 : rs G u v with
   | false =>
    have hm : mu G v u = false := by
     rw [Bool.eq_false_iff]; intro h
     have := huv.2 (mu_iff.1 h).2
     rw [e2] at this; cases this
    rw [hm, if_neg (by simp)]
    rw [e2] at c2
    have ih := loop41i h5 h0 hv hl h4 (n := n) (H0 := H0) (prot := prot) d (u + 1) (by omega)
    obtain ⟨_, _, rfl⟩ := h0.len
    obtain ⟨_, _, rfl⟩ := h4.len
    exact lp_next (f60_L1_1 (x27 := setA (rs G v)) (x34 := setA (rs G u)) (by omega) (by omega) p1 q1 c1 rfl p2 q2 c2 rfl fi) ih
   | true =>
    have hm : mu G v u = true := mu_iff.2 ⟨hvu.1 e1, huv.1 e2⟩
    rw [hm, if_pos rfl]
    rw [e2] at c2
    have hget : (il (nl out))[u]? = some (.int .i64 ((out.getD u 0 : Nat) : Int)) := by
     unfold il nl
     rw [List.getElem?_map, List.getElem?_map, List.getElem?_eq_getElem (by omega), List.getD_eq_getElem?_getD, List.getElem?_eq_getElem (by omega)]
     rfl
    obtain ⟨i3, L3, p3, q3⟩ := rd_at T34 h4 hget
    obtain ⟨_, _, rfl⟩ := h0.len
    obtain ⟨_, _, rfl⟩ := h4.len
    refine lp_next (f60_L1_0 (x27 := setA (rs G v)) (x34 := setA (rs G u)) (by omega) (by omega) p1 q1 c1 rfl p2 q2 c2 rfl p3 q3 fi) ?_
    by_cases he : u + 1 < v
    ·exact lp_last (f60_L1_3 (by omega) (by omega))
    ·exact lp_last (f60_L1_4 (by omega))
theorem loop41 {G : List (List Int)} (h5 : G.length ≤ 512) {x0 : Value} {H0 : AHeap} {prot : Nat} (h0 : Rd H0 99 8 x0 G.length (sets (rs G) G.length)) : ∀ (d v : Nat) (out : List Nat) (n : Nat) (x4 : Value) (o : Option Nat) (H : AHeap), v + d = G.length → out.length = v → n ≤ v → Stay none H0 H → Own H 3 1 x4 o v (il (nl out)) → (∀ id, o = some id → H0.length ≤ id) →
  ∃ x' o' H', lpInf (lpOf cfg a60 0 prot H0) ([x0, x4, .int .i64 n, .int .i64 v], H) = some (.exit 0, [x', .int .i64 (numR G d v out n).2], H') ∧ Own H' 3 1 x' o' G.length (il (nl (numR G d v out n).1)) ∧ (∀ id, o' = some id → H0.length ≤ id) ∧ Stay none H0 H'
 | 0, v, out, n, x4, o, H, hv, hl, hn, hst, hx, ho => by
  have he : v = G.length := by omega
  subst he
  refine ⟨x4, o, H, ?_, hx, ho, hst⟩
  obtain ⟨_, _, rfl⟩ := h0.len
  obtain ⟨_, _, rfl⟩ := hx.len
  exact lp_last (f60_L0_2 (by omega))
 | d + 1, v, out, n, x4, o, H, hv, hl, hn, hst, hx, ho => by
  have hvl : v < G.length := by omega
  have hi := loop41i h5 (h0.stay hst) (H0 := H0) (prot := prot) hvl hl hx.rd (n := (n : Int)) v 0 (by omega)
  have hl0 := hst.1
  have app := fun c : Nat => own_app T34 hx (ecs := [.int .i64 (c : Int)]) rfl rfl (prot := H0.length) (room := true) ho hl0 (by omega) (L := 1 * 1) rfl (el := [Value.int .i64 (c : Int)].length) rfl
  rw [numR]
  cases hf : findM (mu G v) v 0 with
  | some u =>
   rw [hf] at hi
   simp only at hi
   obtain ⟨a', c', o', H3, q1, q2, q3, q4, q5, q6⟩ := app (out.getD u 0)
   rw [show il (nl out) ++ [Value.int .i64 ((out.getD u 0 : Nat) : Int)] = il (nl (out ++ [out.getD u 0])) by simp [il, nl]] at q2
   obtain ⟨x', o2, H', z1, z2⟩ := loop41 h5 (prot := prot) h0 d (v + 1) (out ++ [out.getD u 0]) n _ (some o') H3 (by omega) (by simp [hl]) (by omega) (hst.over q3 ho) q2 (fun id e => by cases e; exact q4)
   refine ⟨x', o2, H', ?_, z2⟩
   obtain ⟨_, _, rfl⟩ := h0.len
   obtain ⟨_, _, rfl⟩ := hx.len
   exact lp_next (f60_L0_1 (by omega) hi (by omega) q1 (fit64 (by omega) (by omega))) z1
  | none =>
   rw [hf] at hi
   simp only at hi
   obtain ⟨a', c', o', H3, q1, q2, q3, q4, q5, q6⟩ := app n
   rw [show il (nl out) ++ [Value.int .i64 ((n : Nat) : Int)] = il (nl (out ++ [n])) by simp [il, nl]] at q2
   obtain ⟨x', o2, H', z1, z2⟩ := loop41 h5 (prot := prot) h0 d (v + 1) (out ++ [n]) (n + 1) _ (some o') H3 (by omega) (by simp [hl]) (by omega) (hst.over q3 ho) q2 (fun id e => by cases e; exact q4)
   refine ⟨x', o2, H', ?_, z2⟩
   obtain ⟨_, _, rfl⟩ := h0.len
   obtain ⟨_, _, rfl⟩ := hx.len
   exact lp_next (f60_L0_0 (by omega) hi (by omega) (fit64 (by omega) (by omega)) q1 (fit64 (by omega) (by omega))) z1
theorem c41 {G : List (List Int)} (h5 : G.length ≤ 512) {x0 : Value} (prot : Nat) {H : AHeap} (h0 : Rd H 99 8 x0 G.length (sets (rs G) G.length)) :
  ∃ x' H', callInf cfg 60 [x0] prot H = some (.tuple #[x', .int .i64 (comp G).2], H') ∧ OwnE H' 3 x' G.length (il (nl (comp G).1)) H.length ∧ Stay none H H' := by
 obtain ⟨x1, o1, H1, z1, z2, z3, z4⟩ := loop41 h5 (prot := prot) h0 G.length 0 [] 0 (.slice none 0 0) none H (by omega) rfl (Nat.le_refl _) (Stay.refl _ _) own_nil (fun id h => by cases h)
 obtain ⟨x', H', g1, g2, g3⟩ := gcE (H := H) (.inl ⟨o1, z2, z3⟩) (il_plain _) (ps := [.int .i64 ((comp G).2 : Nat)]) rfl
 refine ⟨x', H', ?_, g2, g3⟩
 obtain ⟨_, _, rfl⟩ := h0.len
 obtain ⟨_, _, rfl⟩ := z2.len
 exact f60_F_0 _ _ z1 (by rw [pfin_eq, if_neg (by simp [a60])]; exact g1)
end Go.Proofs.Ythjkodbinkiifaa.Am23g
set_option linter.unusedVariables false
namespace Go.Proofs.Ythjkodbinkiifaa.Am23g
open Go Go.Proofs.Ythjkodbinkiifaa.Am Am23
section
variable {x0a x17a x20aa z8a x5a x6a x8a z0a z5a z6a : Option Addr}
variable {x0n x0c prot x17n x17c x20an x20ac z8n z8c x5n x5c x6n x6c x8n x8c z0n z0c z5n z5c z6n z6c x39p x39o x39l x46p x46o x46l x51p x51o x51l x53p x53o x53l x57p x57o x57l x60p x60o x60l : Nat}
variable {H H1 H2 H3 H0 : AHeap}
variable {x12 x20b x9 z9 x10 x47 x52 x58 : Int}
variable {x40 x54 x59 : Array Value}
variable {x42 : Bool}
theorem f62_F_0 (h1 : cI 76 [vS x0a x0n x0c] H.length H = some (vI x12, H)) (h2 : (x12 != 0) = true) : callInf cfg 62 [.slice x0a x0n x0c] prot H = some (Value.tuple { toList := [Value.slice none 0 0, Value.int .i64 x12] }, H) :=
 fn_of2 a62 [.v (vI x12), .e, .b true] (ai h1 (ai h2 (Eq.refl ((Value.tuple #[vS none 0 0, vI x12], H) : Value × AHeap)))) (by kernel_rfl) rfl
theorem f62_F_1 (rv : Value) (rH : AHeap) (h1 : cI 76 [vS x0a x0n x0c] H.length H = some (vI x12, H)) (h2 : (x12 != 0) = false) (h3 : cI 61 [vS x0a x0n x0c] H.length H = some (vS x17a x17n x17c, H1)) (h4 : cI 60 [vS x17a x17n x17c] H.length H1 = some (Value.tuple #[vS x20aa x20an x20ac, vI x20b], H2)) (h5 : 0 ≤ x20b) (h6 : x20b = x20b) (h7 : x20b ≤ 9223372036854775807) (h8 : (↑64 : Int) * x20b ≤ 2 ^ 48) (h9 : lI a62 0 prot H ([vS x0a x0n x0c, vS x17a x17n x17c, vS x20aa x20an x20ac, vS (some ⟨H2.length, 0, some (x20b.toNat * 8)⟩) x20b.toNat x20b.toNat, vI 0], H2 ++ [AObj.cells (repCells [Value.int .u64 0, Value.int .u64 0, Value.int .u64 0, Value.int .u64 0, Value.int .u64 0, Value.int .u64 0, Value.int .u64 0, Value.int .u64 0] x20b.toNat) 99 (repCells [Value.int .u64 0, Value.int .u64 0, Value.int .u64 0, Value.int .u64 0, Value.int .u64 0, Value.int .u64 0, Value.int .u64 0, Value.int .u64 0] x20b.toNat).length OMode.row]) = some (Ex.exit 0, [vS z8a z8n z8c], H3)) (h10 : pfin a62 H [vS z8a z8n z8c, vI 0] H3 = (rv, rH)) : callInf cfg 62 [.slice x0a x0n x0c] prot H = some (rv, rH) :=
 fn_of2 a62 [.v (vI x12), .e, .b false, .r (vS x17a x17n x17c) H1, .r (.tuple #[vS x20aa x20an x20ac, vI x20b]) H2, .e, .lo (.exit 0, [vS z8a z8n z8c], H3)] (ai h1 (ai h2 (ai h3 (ai h4 (ai h5 (ai h6 (ai h7 (ai h8 (ai h9 h10))))))))) (by kernel_rfl) rfl
theorem f62_L0_0 (h1 : x9 < (↑x0n : Int)) (h2 : lI a62 1 prot H0 ([vS x0a x0n x0c, vS x5a x5n x5c, vS x6a x6n x6c, vS x8a x8n x8c, vI x9, vI 0], H) = some (Ex.exit 2, [vS z0a z0n z0c, vS z5a z5n z5c, vS z6a z6n z6c, vS z8a z8n z8c, vI z9], H2)) (h3 : Fit .i64 (z9 + 1)) : lpOf cfg a62 0 prot H0 ([.slice x0a x0n x0c, .slice x5a x5n x5c, .slice x6a x6n x6c, .slice x8a x8n x8c, .int .i64 x9], H) = some (Sum.inl ([Value.slice z0a z0n z0c, Value.slice z5a z5n z5c, Value.slice z6a z6n z6c, Value.slice z8a z8n z8c, Value.int .i64 (z9 + 1)], H2)) :=
 lp_of2 [.e, .e, .b true, .lo (.exit 2, [vS z0a z0n z0c, vS z5a z5n z5c, vS z6a z6n z6c, vS z8a z8n z8c, vI z9], H2), .e] (ai (decide_eq_true h1) (ai h2 (ai h3 (Eq.refl (Sum.inl ([vS z0a z0n z0c, vS z5a z5n z5c, vS z6a z6n z6c, vS z8a z8n z8c, vI (z9 + 1)], H2) : LS ⊕ LO))))) (by kernel_rfl)
theorem f62_L0_1 (h1 : ¬(x9 < (↑x0n : Int))) : lpOf cfg a62 0 prot H0 ([.slice x0a x0n x0c, .slice x5a x5n x5c, .slice x6a x6n x6c, .slice x8a x8n x8c, .int .i64 x9], H) = some (Sum.inr (Ex.exit 0, [Value.slice x8a x8n x8c], H)) :=
 lp_of2 [.e, .e, .b false] (ai (decide_eq_false h1) (Eq.refl (Sum.inr (Ex.exit 0, [vS x8a x8n x8c], H) : LS ⊕ LO))) (by kernel_rfl)
theorem f62_L1_0 (h1 : x10 < (↑x0n : Int)) (h2 : aX 93 (vS x5a x5n x5c) (vI x9) = some (vP x39p x39o x39l)) (h3 : getCells H x39p x39l x39o 8 = some x40.toList) (h4 : cI 63 [Value.agg x40, vI x10] H0.length H = some (Value.bool x42, H)) (h5 : x42 = true) (h6 : aX 22 (vS x6a x6n x6c) (vI x9) = some (vP x46p x46o x46l)) (h7 : getCells H x46p x46l x46o 1 = some [vI x47]) (h8 : aX 22 (vS x6a x6n x6c) (vI x9) = some (vP x51p x51o x51l)) (h9 : getCells H x51p x51l x51o 1 = some [vI x52]) (h10 : aX 93 (vS x8a x8n x8c) (vI x52) = some (vP x53p x53o x53l)) (h11 : getCells H x53p x53l x53o 8 = some x54.toList) (h12 : aX 22 (vS x6a x6n x6c) (vI x10) = some (vP x57p x57o x57l)) (h13 : getCells H x57p x57l x57o 1 = some [vI x58]) (h14 : cI 77 [Value.agg x54, vI x58] H0.length H = some (Value.agg x59, H)) (h15 : aX 93 (vS x8a x8n x8c) (vI x47) = some (vP x60p x60o x60l)) (h16 : x59.toList.length = 8) (h17 : setCells H H0.length x60p x60l x60o x59.toList = some H2) (h18 : Fit .i64 (x10 + 1)) : lpOf cfg a62 1 prot H0 ([.slice x0a x0n x0c, .slice x5a x5n x5c, .slice x6a x6n x6c, .slice x8a x8n x8c, .int .i64 x9, .int .i64 x10], H) = some (Sum.inl ([Value.slice x0a x0n x0c, Value.slice x5a x5n x5c, Value.slice x6a x6n x6c, Value.slice x8a x8n x8c, Value.int .i64 x9, Value.int .i64 (x10 + 1)], H2)) :=
 lp_of2 [.e, .e, .b true, .v (vP x39p x39o x39l), .v (.agg x40), .v (.bool x42), .b true, .v (vP x46p x46o x46l), .v (vI x47), .v (vP x51p x51o x51l), .v (vI x52), .v (vP x53p x53o x53l), .v (.agg x54), .v (vP x57p x57o x57l), .v (vI x58), .v (.agg x59), .v (vP x60p x60o x60l), .h H2, .e] (ai (decide_eq_true h1) (ai h2 (ai h3 (ai h4 (ai h5 (ai h6 (ai h7 (ai h8 (ai h9 (ai h10 (ai h11 (ai h12 (ai h13 (ai h14 (ai h15 (ai h16 (ai h17 (ai h18 (Eq.refl (Sum.inl ([vS x0a x0n x0c, vS x5a x5n x5c, vS x6a x6n x6c, vS x8a x8n x8c, vI x9, vI (x10 + 1)], H2) : LS ⊕ LO)))))))))))))))))))) (by kernel_rfl)
theorem f62_L1_1 (h1 : x10 < (↑x0n : Int)) (h2 : aX 93 (vS x5a x5n x5c) (vI x9) = some (vP x39p x39o x39l)) (h3 : getCells H x39p x39l x39o 8 = some x40.toList) (h4 : cI 63 [Value.agg x40, vI x10] H0.length H = some (Value.bool x42, H)) (h5 : x42 = false) (h6 : Fit .i64 (x10 + 1)) : lpOf cfg a62 1 prot H0 ([.slice x0a x0n x0c, .slice x5a x5n x5c, .slice x6a x6n x6c, .slice x8a x8n x8c, .int .i64 x9, .int .i64 x10], H) = some (Sum.inl ([Value.slice x0a x0n x0c, Value.slice x5a x5n x5c, Value.slice x6a x6n x6c, Value.slice x8a x8n x8c, Value.int .i64 x9, Value.int .i64 (x10 + 1)], H)) :=
 lp_of2 [.e, .e, .b true, .v (vP x39p x39o x39l), .v (.agg x40), .v (.bool x42), .b false, .e] (ai (decide_eq_true h1) (ai h2 (ai h3 (ai h4 (ai h5 (ai h6 (Eq.refl (Sum.inl ([vS x0a x0n x0c, vS x5a x5n x5c, vS x6a x6n x6c, vS x8a x8n x8c, vI x9, vI (x10 + 1)], H) : LS ⊕ LO)))))))) (by kernel_rfl)
theorem f62_L1_2 (h1 : ¬(x10 < (↑x0n : Int))) : lpOf cfg a62 1 prot H0 ([.slice x0a x0n x0c, .slice x5a x5n x5c, .slice x6a x6n x6c, .slice x8a x8n x8c, .int .i64 x9, .int .i64 x10], H) = some (Sum.inr (Ex.exit 2, [Value.slice x0a x0n x0c, Value.slice x5a x5n x5c, Value.slice x6a x6n x6c, Value.slice x8a x8n x8c, Value.int .i64 x9], H)) :=
 lp_of2 [.e, .e, .b false] (ai (decide_eq_false h1) (Eq.refl (Sum.inr (Ex.exit 2, [vS x0a x0n x0c, vS x5a x5n x5c, vS x6a x6n x6c, vS x8a x8n x8c, vI x9], H) : LS ⊕ LO))) (by kernel_rfl)
end
end Go.Proofs.Ythjkodbinkiifaa.Am23g
namespace Go.Proofs.Ythjkodbinkiifaa.Am23g
open Go Go.Proofs.Ythjkodbinkiifaa.Am Am23
theorem loop24i {G : List (List Int)} (h512 : G.length ≤ 512) {G0 : AHeap} {x0 x5 x6 x8 : Value} (hx0 : ∃ a c, x0 = .slice a G.length c) (h5 : Rd G0 99 8 x5 G.length (sets (rs G) G.length)) (h6 : Rd G0 3 1 x6 G.length (il (nl (comp G).1))) {o : Nat} (ho : G0.length ≤ o) {H0 : AHeap} (hp : H0.length ≤ o) {prot : Nat} {v : Nat} (hv : v < G.length) {B : Nat → Nat → Prop} : ∀ (d i : Nat) (A : Nat → Nat → Bool) (H : AHeap), i + d = G.length → Stay none G0 H → Own H 99 8 x8 (some o) (comp G).2 (sets A (comp G).2) →
  (∀ c e, A c e = true ↔ B c e ∨ (c = Lc G v ∧ ∃ u, u < i ∧ RQ G v u ∧ e = Lc G u)) →
  ∃ A' H', lpInf (lpOf cfg a62 1 prot H0) ([x0, x5, x6, x8, .int .i64 v, .int .i64 i], H) = some (.exit 2, [x0, x5, x6, x8, .int .i64 v], H') ∧ Own H' 99 8 x8 (some o) (comp G).2 (sets A' (comp G).2) ∧
   (∀ c e, A' c e = true ↔ B c e ∨ (c = Lc G v ∧ ∃ u, u < G.length ∧ RQ G v u ∧ e = Lc G u)) ∧ Stay (some o) H H'
 | 0, i, A, H, hi, hst, hx, hA => by
  have he : i = G.length := by omega
  subst he
  refine ⟨A, H, ?_, hx, hA, Stay.refl _ _⟩
  obtain ⟨_, _, rfl⟩ := hx0
  obtain ⟨_, _, rfl⟩ := h5.len
  obtain ⟨_, _, rfl⟩ := h6.len
  obtain ⟨_, _, rfl⟩ := hx.len
  exact lp_last (f62_L1_2 (by omega))
 | d + 1, i, A, H, hi, hst, hx, hA => by
  have hil : i < G.length := by omega
  have hn := comp_n G
  obtain ⟨i1, L1, p1, q1⟩ := sets_rdP (h5.stay hst) hv
  have h20 := c20 (S := rs G v) (show i < 512 by omega) H0.length H
  have fi : Fit .i64 ((i : Int) + 1) := fit64 (by omega) (by omega)
  have hk := Lc_lt hv
  have hk2 := Lc_lt hil
  cases hb : rs G v i with
  | true =>
   have hr : RQ G v i := rs_iff.1 hb
   rw [hb] at h20
   obtain ⟨i2, L2, b1, b2⟩ := rd_at T34 (h6.stay hst) (comp_get hv)
   obtain ⟨i3, L3, c1, c2⟩ := rd_at T34 (h6.stay hst) (comp_get hil)
   obtain ⟨d1, d2⟩ := sets_at hx hk
   have h43 := c43 (S := A (Lc G v)) (show Lc G i < 512 by omega) H0.length H
   obtain ⟨H2, e1, e2, e3⟩ := sets_set hx hk (addS (A (Lc G v)) (Lc G i)) hp
   obtain ⟨A', H', z1, z2, z3, z4⟩ := loop24i h512 hx0 h5 h6 ho hp (prot := prot) hv (B := B) d (i + 1) _ H2 (by omega) (hst.over e3 (fun id e => by cases e; exact ho)) e2 (fun c e => by
    by_cases hc : c = Lc G v
    ·subst hc
     rw [if_pos rfl]
     unfold addS
     rw [Bool.or_eq_true, decide_eq_true_eq, hA]
     constructor
     ·rintro ((h | ⟨_, u, h1, h2, h3⟩) | h)
      ·exact .inl h
      ·exact .inr ⟨rfl, u, by omega, h2, h3⟩
      ·exact .inr ⟨rfl, i, by omega, hr, h⟩
     ·rintro (h | ⟨_, u, h1, h2, h3⟩)
      ·exact .inl (.inl h)
      ·by_cases e0 : u = i
       ·subst e0; exact .inr h3
       ·exact .inl (.inr ⟨rfl, u, by omega, h2, h3⟩)
    ·rw [if_neg hc, hA]
     simp [hc])
   refine ⟨A', H', ?_, z2, z3, e3.trans z4⟩
   obtain ⟨_, _, rfl⟩ := hx0
   obtain ⟨_, _, rfl⟩ := h5.len
   obtain ⟨_, _, rfl⟩ := h6.len
   obtain ⟨_, _, rfl⟩ := hx.len
   exact lp_next (f62_L1_0 (x40 := setA (rs G v)) (x54 := setA (A (Lc G v))) (x59 := setA (addS (A (Lc G v)) (Lc G i))) (by omega) p1 q1 h20 rfl b1 b2 b1 b2 d1 d2 c1 c2 h43 d1 (setL_len _) e1 fi) z1
  | false =>
   have hr : ¬ RQ G v i := fun h => by have := rs_iff.2 h; rw [hb] at this; cases this
   rw [hb] at h20
   obtain ⟨A', H', z1, z2, z3, z4⟩ := loop24i h512 hx0 h5 h6 ho hp (prot := prot) hv (B := B) d (i + 1) A H (by omega) hst hx (fun c e => by
    rw [hA]
    constructor
    ·rintro (h | ⟨h0, u, h1, h2, h3⟩)
     ·exact .inl h
     ·exact .inr ⟨h0, u, by omega, h2, h3⟩
    ·rintro (h | ⟨h0, u, h1, h2, h3⟩)
     ·exact .inl h
     ·by_cases e0 : u = i
      ·subst e0; exact absurd h2 hr
      ·exact .inr ⟨h0, u, by omega, h2, h3⟩)
   refine ⟨A', H', ?_, z2, z3, z4⟩
   obtain ⟨_, _, rfl⟩ := hx0
   obtain ⟨_, _, rfl⟩ := h5.len
   obtain ⟨_, _, rfl⟩ := h6.len
   obtain ⟨_, _, rfl⟩ := hx.len
   exact lp_next (f62_L1_1 (x40 := setA (rs G v)) (by omega) p1 q1 h20 rfl fi) z1
theorem loop24o {G : List (List Int)} (h512 : G.length ≤ 512) {G0 : AHeap} {x0 x5 x6 x8 : Value} (hx0 : ∃ a c, x0 = .slice a G.length c) (h5 : Rd G0 99 8 x5 G.length (sets (rs G) G.length)) (h6 : Rd G0 3 1 x6 G.length (il (nl (comp G).1))) {o : Nat} (ho : G0.length ≤ o) {H0 : AHeap} (hp : H0.length ≤ o) {prot : Nat} : ∀ (d v : Nat) (A : Nat → Nat → Bool) (H : AHeap), v + d = G.length → Stay none G0 H → Own H 99 8 x8 (some o) (comp G).2 (sets A (comp G).2) → (∀ c e, A c e = true ↔ AbvTo G v c e) →
  ∃ A' H', lpInf (lpOf cfg a62 0 prot H0) ([x0, x5, x6, x8, .int .i64 v], H) = some (.exit 0, [x8], H') ∧ Own H' 99 8 x8 (some o) (comp G).2 (sets A' (comp G).2) ∧ (∀ c e, A' c e = true ↔ AbvTo G G.length c e) ∧ Stay (some o) H H'
 | 0, v, A, H, hi, hst, hx, hA => by
  have he : v = G.length := by omega
  subst he
  refine ⟨A, H, ?_, hx, hA, Stay.refl _ _⟩
  obtain ⟨_, _, rfl⟩ := hx0
  obtain ⟨_, _, rfl⟩ := h5.len
  obtain ⟨_, _, rfl⟩ := h6.len
  obtain ⟨_, _, rfl⟩ := hx.len
  exact lp_last (f62_L0_1 (by omega))
 | d + 1, v, A, H, hi, hst, hx, hA => by
  have hv : v < G.length := by omega
  obtain ⟨A1, H3, y1, y2, y3, y4⟩ := loop24i h512 hx0 h5 h6 ho hp (prot := prot) hv (B := AbvTo G v) G.length 0 A H (by omega) hst hx (fun c e => by
   rw [hA]; simp)
  obtain ⟨A', H', z1, z2, z3, z4⟩ := loop24o h512 hx0 h5 h6 ho hp (prot := prot) d (v + 1) A1 H3 (by omega) (hst.over y4 (fun id e => by cases e; exact ho)) y2 (fun c e => by
   rw [y3]
   constructor
   ·rintro (⟨w, u, h1, h2, h3, h4, h5⟩ | ⟨rfl, u, h1, h2, rfl⟩)
    ·exact ⟨w, u, by omega, h2, h3, h4, h5⟩
    ·exact ⟨v, u, by omega, h1, rfl, rfl, h2⟩
   ·rintro ⟨w, u, h1, h2, h3, h4, h5⟩
    by_cases e0 : w = v
    ·subst e0
     exact .inr ⟨h3.symm, u, h2, h5, h4.symm⟩
    ·exact .inl ⟨w, u, by omega, h2, h3, h4, h5⟩)
  refine ⟨A', H', ?_, z2, z3, y4.trans z4⟩
  obtain ⟨_, _, rfl⟩ := hx0
  obtain ⟨_, _, rfl⟩ := h5.len
  obtain ⟨_, _, rfl⟩ := h6.len
  obtain ⟨_, _, rfl⟩ := hx.len
  exact lp_next (f62_L0_0 (by omega) y1 (fit64 (by omega) (by omega))) z1

theorem c24 {G : List (List Int)} (hs : Short G) {vG : Value} (prot : Nat) {H : AHeap} (hg : Gr H vG G) :
  (chk G ≠ 0 ∧ callInf cfg 62 [vG] prot H = some (.tuple #[.slice none 0 0, .int .i64 (chk G)], H)) ∨
  (chk G = 0 ∧ ∃ x' H', callInf cfg 62 [vG] prot H = some (.tuple #[x', .int .i64 0], H') ∧ OwnS H' 99 8 x' (comp G).2 (sets (abv G) (comp G).2) H.length ∧ Stay none H H') := by
 have h26 := c26 hs H.length hg
 by_cases h : chk G = 0
 ·refine .inr ⟨h, ?_⟩
  have hG := good_of hs h
  have h5 := hG.1
  have hn := comp_n G
  obtain ⟨yy, H1, w1, w2, w3⟩ := c42 hG H.length hg
  obtain ⟨y, H2, n1, n2, n4⟩ := c41 hG.1 H.length w2.rd
  obtain ⟨z8, hz8⟩ : ∃ z8 : List Value, z8 = [.int .u64 0, .int .u64 0, .int .u64 0, .int .u64 0, .int .u64 0, .int .u64 0, .int .u64 0, .int .u64 0] := ⟨_, rfl⟩
  have hz : z8 = List.replicate 8 (.int .u64 0) := by rw [hz8]; rfl
  obtain ⟨H3, hH3⟩ : ∃ H3, H3 = H2 ++ [AObj.cells (repCells z8 (comp G).2) 99 (repCells z8 (comp G).2).length .row] := ⟨_, rfl⟩
  have s3 : Stay none H2 H3 := by rw [hH3]; exact Stay.app none H2 _
  have hlen : H.length ≤ H2.length := Nat.le_trans w3.1 n4.1
  obtain ⟨ax, cx, hye⟩ := n2.rd.len
  obtain ⟨aw, cw, hyw⟩ := w2.rd.len
  have key : ∃ x6 H4, lpInf (lpOf cfg a62 0 prot H) ([vG, yy, y, .slice (some ⟨H2.length, 0, some ((comp G).2 * 8)⟩) (comp G).2 (comp G).2, .int .i64 0], H3) = some (.exit 0, [x6], H4) ∧ OwnS H4 99 8 x6 (comp G).2 (sets (abv G) (comp G).2) H.length := by
   by_cases h0 : 0 < (comp G).2
   ·have m : Own H3 99 8 (.slice (some ⟨H2.length, 0, some ((comp G).2 * 8)⟩) (comp G).2 (comp G).2) (some H2.length) (comp G).2 (sets (fun _ => noS) (comp G).2) := by
     rw [sets_no, ← hz, hH3]
     have hl : (repCells z8 (comp G).2).length = (comp G).2 * 8 := by rw [hz, ← sets_no, sets_len]
     exact own_new hl h0 hl.symm rfl
    obtain ⟨A', H4, z1, z2, z3, z4⟩ := loop24o h5 hg.len (w2.rd.stay n4) n2.rd (Nat.le_refl _) (H0 := H) hlen (prot := prot) G.length 0 _ H3 (by omega) s3 m (fun c e => by
     constructor
     ·intro h; cases h
     ·rintro ⟨w, u, h1, _⟩; omega)
    refine ⟨_, H4, z1, .inl ⟨some H2.length, ?_, fun id e => by cases e; exact hlen⟩⟩
    rw [sets_congr (A := abv G) (B := A') _ (fun c _ i _ => by rw [Bool.eq_iff_iff, abv_iff, z3]; rfl)]
    exact z2
   ·have hn0 : (comp G).2 = 0 := by omega
    have hG0 : G = [] := List.eq_nil_of_length_eq_zero (by
     rcases Nat.eq_zero_or_pos G.length with h | h
     ·exact h
     ·have := Lc_lt h; omega)
    rw [hn0] at hH3 ⊢
    subst hG0
    obtain ⟨aG, cG, rfl⟩ := hg.len
    subst hye; subst hyw
    refine ⟨_, H3, lp_last (f62_L0_1 (by decide)), .inr ⟨rfl, rfl, H2.length, rfl, hlen, ?_⟩⟩
    rw [hH3]
    exact append_get.1
  obtain ⟨x6, H4, z1, z2⟩ := key
  obtain ⟨x', H', g1, g2, g3⟩ := gcS (H := H) z2 (sets_plain _ _) (ps := [.int .i64 0]) rfl
  refine ⟨x', H', ?_, g2, g3⟩
  obtain ⟨aG, cG, rfl⟩ := hg.len
  subst hye; subst hyw
  obtain ⟨_, _, rfl⟩ := z2.rd.len
  subst hH3; subst hz8
  exact f62_F_1 _ _ h26 (by simp [h]) w1 n1 (by omega) rfl (by omega) (by omega) z1 (by rw [pfin_eq, if_neg (by simp [a62])]; exact g1)
 ·refine .inl ⟨h, ?_⟩
  obtain ⟨aG, cG, rfl⟩ := hg.len
  exact f62_F_0 h26 (by simpa using h)

end Go.Proofs.Ythjkodbinkiifaa.Am23g
namespace Go.Proofs.Ythjkodbinkiifaa.Am23
open Go Go.Proofs.Ythjkodbinkiifaa.Am
open Am23g (addE Out Mine out_start gc_mine Gr nl Rch RQ sc comp Lc abv Abv abv_iff chk Short Lc_lt comp_n T46)
/-! The document's Growth: counts and rounds. -/
structure E34 (Hb H : AHeap) (n : Nat) (xe xz : Value) (oe oz : Nat) (E Z : Nat → Nat) : Prop where
 st : Stay none Hb H
 e : Own H 3 1 xe (some oe) n (il (faL E n))
 z : Own H 3 1 xz (some oz) n (il (faL Z n))
 d1 : oe ≠ oz
 lo : Hb.length ≤ oe ∧ Hb.length ≤ oz
section
variable {Hb : AHeap} {N n : Nat} {R : Nat → List Nat} {lc : Nat → Nat} {cl : List Value} {xg xl xe xz : Value} {oe oz : Nat}
theorem E34.bE {H : AHeap} {E Z : Nat → Nat} (h : E34 Hb H n xe xz oe oz E Z) {c : Nat} (hc : c < n) {prot : Nat} (hp : prot ≤ Hb.length) :
  ∃ L H', aindexAddr cfg.P 22 xe (.int .i64 (c : Nat)) = some (.pointer (some ⟨oe, c, some L⟩)) ∧ getCells H oe L c 1 = some [.int .i64 ((E c : Nat) : Int)] ∧ setCells H prot oe L c [.int .i64 ((E c : Int) + 1)] = some H' ∧ E34 Hb H' n xe xz oe oz (bmp E c) Z := by
 have hlo := h.lo
 obtain ⟨L, H', a1, a2, a3, a4, a5⟩ := own_bmp h.e hc (prot := prot) (by omega)
 exact ⟨L, H', a1, a2, a3, ⟨h.st.over a5 (fun id e => by cases e; omega), a4, h.z.stay a5 (fun id e1 e2 => by cases e1; exact h.d1 (Option.some.inj e2)), h.d1, h.lo⟩⟩
theorem E34.bZ {H : AHeap} {E Z : Nat → Nat} (h : E34 Hb H n xe xz oe oz E Z) {c : Nat} (hc : c < n) {prot : Nat} (hp : prot ≤ Hb.length) :
  ∃ L H', aindexAddr cfg.P 22 xz (.int .i64 (c : Nat)) = some (.pointer (some ⟨oz, c, some L⟩)) ∧ getCells H oz L c 1 = some [.int .i64 ((Z c : Nat) : Int)] ∧ setCells H prot oz L c [.int .i64 ((Z c : Int) + 1)] = some H' ∧ E34 Hb H' n xe xz oe oz E (bmp Z c) := by
 have hlo := h.lo
 obtain ⟨L, H', a1, a2, a3, a4, a5⟩ := own_bmp h.z hc (prot := prot) (by omega)
 exact ⟨L, H', a1, a2, a3, ⟨h.st.over a5 (fun id e => by cases e; omega), h.e.stay a5 (fun id e1 e2 => by cases e1; exact h.d1 (Option.some.inj e2).symm), a4, h.d1, h.lo⟩⟩
theorem loop34c (hN : N ≤ 512) (hlc : ∀ v, v < N → lc v < n) (hcl : ∀ v, v < N → cl[v]? = some (.int .i64 ((lc v : Nat) : Int))) (hR : ∀ j t, t ∈ R j → t < N) (hRl : ∀ j, (R j).length ≤ 1000) (hg : RowsR Hb xg N R) (hl : Rd Hb 3 1 xl N cl) {H0 : AHeap} (h0 : H0.length ≤ Hb.length) {prot s M : Nat} (hs : s < N) (hM : M ≤ 1000000) {Z : Nat → Nat} : ∀ (d i : Nat) (E : Nat → Nat) (H : AHeap), i + d = (R s).length →
   E34 Hb H n xe xz oe oz E Z → (∀ x, E x ≤ M + i) →
  ∃ H', lpInf (lpOf cfg a34 3 prot H0) ([xg, xl, .int .i64 n, xz, xe, .int .i64 s, .int .i64 i], H) = some (.exit 6, [xg, xl, .int .i64 n, xz, xe, .int .i64 s], H') ∧
   E34 Hb H' n xe xz oe oz (((R s).drop i).foldl (eStep lc s) E) Z
 | 0, i, E, H, hi, h, hE => by
  rw [List.drop_eq_nil_of_le (by omega)]
  refine ⟨H, ?_, h⟩
  obtain ⟨_, _, _, _, g1, g2, _⟩ := (hg.stay h.st).at hs
  obtain ⟨cs, hgr, _⟩ := hg
  obtain ⟨_, _, rfl⟩ := hgr.len
  obtain ⟨_, _, rfl⟩ := hl.len
  obtain ⟨_, _, rfl⟩ := h.z.len
  obtain ⟨_, _, rfl⟩ := h.e.len
  exact lp_last (f34_L3_2 g1 g2 (by omega))
 | d + 1, i, E, H, hi, h, hE => by
  have hil : i < (R s).length := by omega
  have hRs := hRl s
  obtain ⟨t, ht⟩ : ∃ t, (R s)[i]? = some t := ⟨_, List.getElem?_eq_getElem hil⟩
  have htN := hR s t (List.mem_of_getElem? ht)
  rw [drop_cons ht, List.foldl_cons]
  obtain ⟨_, _, _, _, g1, g2, hr⟩ := (hg.stay h.st).at hs
  obtain ⟨i1, L1, a1, a2⟩ := rd_at T22 hr (nl_get ht)
  obtain ⟨i2, L2, b1, b2⟩ := rd_at T22 (hl.stay h.st) (hcl s hs)
  obtain ⟨i3, L3, c1, c2⟩ := rd_at T22 (hl.stay h.st) (hcl t htN)
  have fi : Fit .i64 ((i : Int) + 1) := fit64 (by omega) (by omega)
  have hcs := hlc s hs
  have hEs := hE (lc s)
  have hE' : ∀ x, eStep lc s E t x ≤ M + (i + 1) := fun x => eStep_le hE
  have hgl : ∃ a c, xg = .slice a N c := by obtain ⟨cs, hgr, _⟩ := hg; exact hgr.len
  by_cases e : lc s = lc t
  ·obtain ⟨L, H1, d1, d2, d3, d4⟩ := h.bE hcs (prot := H0.length) h0
   have e1 : eStep lc s E t = bmp E (lc s) := by unfold eStep; rw [if_pos e]
   rw [← e1] at d4
   obtain ⟨H', z1, z2⟩ := loop34c hN hlc hcl hR hRl hg hl h0 (prot := prot) hs hM d (i + 1) _ H1 (by omega) d4 hE'
   refine ⟨H', ?_, z2⟩
   obtain ⟨_, _, rfl⟩ := hgl
   obtain ⟨_, _, rfl⟩ := hl.len
   obtain ⟨_, _, rfl⟩ := h.z.len
   obtain ⟨_, _, rfl⟩ := h.e.len
   exact lp_next (f34_L3_0 g1 g2 (by omega) g1 g2 a1 a2 c1 c2 b1 b2 (by rw [e]; simp) b1 b2 d1 d2 (fit64 (by omega) (by omega)) d1 rfl d3 fi) z1
  ·have e1 : eStep lc s E t = E := by unfold eStep; rw [if_neg e]
   rw [e1] at hE' ⊢
   obtain ⟨H', z1, z2⟩ := loop34c hN hlc hcl hR hRl hg hl h0 (prot := prot) hs hM d (i + 1) _ H (by omega) h hE'
   refine ⟨H', ?_, z2⟩
   have hne : (((lc t : Nat) : Int) == ((lc s : Nat) : Int)) = false := by simp; omega
   obtain ⟨_, _, rfl⟩ := hgl
   obtain ⟨_, _, rfl⟩ := hl.len
   obtain ⟨_, _, rfl⟩ := h.z.len
   obtain ⟨_, _, rfl⟩ := h.e.len
   exact lp_next (f34_L3_1 g1 g2 (by omega) g1 g2 a1 a2 c1 c2 b1 b2 hne fi) z1
theorem loop34d (hN : N ≤ 512) (hlc : ∀ v, v < N → lc v < n) (hcl : ∀ v, v < N → cl[v]? = some (.int .i64 ((lc v : Nat) : Int))) (hR : ∀ j t, t ∈ R j → t < N) (hRl : ∀ j, (R j).length ≤ 1000) (hg : RowsR Hb xg N R) (hl : Rd Hb 3 1 xl N cl) {H0 : AHeap} (h0 : H0.length ≤ Hb.length) {prot : Nat} : ∀ (d s : Nat) (E Z : Nat → Nat) (H : AHeap), s + d = N →
   E34 Hb H n xe xz oe oz E Z → (∀ x, E x ≤ s * 1000) → (∀ x, Z x ≤ s) →
  ∃ H', lpInf (lpOf cfg a34 2 prot H0) ([xg, xl, .int .i64 n, xz, xe, .int .i64 s], H) = some (.exit 4, [xg, .int .i64 n, xz, xe], H') ∧
   E34 Hb H' n xe xz oe oz (eAll lc R d s E) (zAll lc d s Z)
 | 0, s, E, Z, H, hi, h, hE, hZ => by
  refine ⟨H, ?_, h⟩
  obtain ⟨_, hgr, _⟩ := hg
  obtain ⟨_, _, rfl⟩ := hgr.len
  obtain ⟨_, _, rfl⟩ := hl.len
  obtain ⟨_, _, rfl⟩ := h.z.len
  obtain ⟨_, _, rfl⟩ := h.e.len
  exact lp_last (f34_L2_1 (by omega))
 | d + 1, s, E, Z, H, hi, h, hE, hZ => by
  have hs : s < N := by omega
  have hcs := hlc s hs
  have hRs := hRl s
  obtain ⟨i2, L2, b1, b2⟩ := rd_at T22 (hl.stay h.st) (hcl s hs)
  obtain ⟨L, H1, d1, d2, d3, d4⟩ := h.bZ hcs (prot := H0.length) h0
  obtain ⟨H2, y1, y2⟩ := loop34c hN hlc hcl hR hRl hg hl h0 (prot := prot) hs (M := s * 1000) (by omega) (R s).length 0 E H1 (by omega) d4 (fun x => by rw [Nat.add_zero]; exact hE x)
  rw [List.drop_zero] at y2
  obtain ⟨H', z1, z2⟩ := loop34d hN hlc hcl hR hRl hg hl h0 (prot := prot) d (s + 1) _ _ H2 (by omega) y2 (fun x => by
   have := eFold_le (lc := lc) (s := s) (R s) (x := x) hE; omega) (fun x => by
   have := bmp_le (c := lc s) (x := x) hZ; omega)
  refine ⟨H', ?_, z2⟩
  have hZs := hZ (lc s)
  obtain ⟨_, hgr, _⟩ := hg
  obtain ⟨_, _, rfl⟩ := hgr.len
  obtain ⟨_, _, rfl⟩ := hl.len
  obtain ⟨_, _, rfl⟩ := h.z.len
  obtain ⟨_, _, rfl⟩ := h.e.len
  exact lp_next (f34_L2_0 (by omega) b1 b2 d1 d2 (fit64 (by omega) (by omega)) d1 rfl d3 y1 (fit64 (by omega) (by omega))) z1
theorem loop34e {H H0 : AHeap} {E Z : Nat → Nat} {prot : Nat} (hn : n ≤ 512) (hg : ∃ a m c, xg = .slice a m c) (h : E34 Hb H n xe xz oe oz E Z) : ∀ (d c : Nat), c + d = n → (∀ x, x < c → E x ≤ Z x) →
  ((∃ x, x < n ∧ Z x < E x) ∧ lpInf (lpOf cfg a34 4 prot H0) ([xg, .int .i64 n, xz, xe, .int .i64 c], H) = some (.ret, [.int .i64 0, .bool false, .int .i64 0, xg, .int .i64 n, xe], H)) ∨
  ((∀ x, x < n → E x ≤ Z x) ∧ lpInf (lpOf cfg a34 4 prot H0) ([xg, .int .i64 n, xz, xe, .int .i64 c], H) = some (.exit 8, [.tuple #[], .tuple #[], .tuple #[], xg, .int .i64 n, xe], H))
 | 0, c, hi, hE => by
  have : c = n := by omega
  subst this
  obtain ⟨_, _, _, rfl⟩ := hg
  obtain ⟨_, _, rfl⟩ := h.z.len
  obtain ⟨_, _, rfl⟩ := h.e.len
  exact .inr ⟨hE, lp_last (f34_L4_2 (by omega))⟩
 | d + 1, c, hi, hE => by
  have hc : c < n := by omega
  obtain ⟨i1, L1, a1, a2⟩ := own_at T22 h.e (faL_get hc)
  obtain ⟨i2, L2, b1, b2⟩ := own_at T22 h.z (faL_get hc)
  have fi : Fit .i64 ((c : Int) + 1) := fit64 (by omega) (by omega)
  by_cases e : Z c < E c
  ·obtain ⟨_, _, _, rfl⟩ := hg
   obtain ⟨_, _, rfl⟩ := h.z.len
   obtain ⟨_, _, rfl⟩ := h.e.len
   exact .inl ⟨⟨c, hc, e⟩, lp_last (f34_L4_0 (by omega) a1 a2 b1 b2 (by omega))⟩
  ·have ih := loop34e (H0 := H0) (prot := prot) hn hg h d (c + 1) (by omega) (fun x hx => by
    by_cases ex : x = c
    ·subst ex; omega
    ·exact hE x (by omega))
   obtain ⟨_, _, _, rfl⟩ := hg
   obtain ⟨_, _, rfl⟩ := h.z.len
   obtain ⟨_, _, rfl⟩ := h.e.len
   rcases ih with ⟨h1, h2⟩ | ⟨h1, h2⟩
   ·exact .inl ⟨h1, lp_next (f34_L4_1 (by omega) a1 a2 b1 b2 (by omega) fi) h2⟩
   ·exact .inr ⟨h1, lp_next (f34_L4_1 (by omega) a1 a2 b1 b2 (by omega) fi) h2⟩
end
/-! ### Rounds -/
structure W34 (G0 H : AHeap) (n : Nat) (h E : Nat → Nat) (xe x x4 : Value) (oe o : Nat) (A : Nat → Nat → Bool) (F : Nat → Nat) : Prop where
 rd : Rd H 99 8 x n (sets A n)
 ow : Own H 3 1 x4 (some o) n (il (faL F n))
 e : Own H 3 1 xe (some oe) n (il (faL E n))
 ne : oe ≠ o
 lo : G0.length ≤ o
 up : ∀ c, c < n → F c ≤ h c
theorem set_rd34 {H : AHeap} {x : Value} {n : Nat} {A : Nat → Nat → Bool} (h : Rd H 99 8 x n (sets A n)) {k : Nat} (hk : k < n) :
  ∃ id L, aindexAddr cfg.P 93 x (.int .i64 (k : Nat)) = some (.pointer (some ⟨id, k * 8, some L⟩)) ∧ getCells H id L (k * 8) 8 = some (setA (A k)).toList := by
 obtain ⟨id, L, a, b⟩ := rd_atS T46 h hk
 have := b 0 8 (Nat.le_refl _)
 rw [Nat.add_zero, sets_get A n hk] at this
 exact ⟨id, L, a, this⟩
/-- A weight is raised. -/
theorem W34.put {G0 H : AHeap} {n : Nat} {h E : Nat → Nat} {xe x x4 : Value} {oe o : Nat} {A : Nat → Nat → Bool} {F : Nat → Nat} (w : W34 G0 H n h E xe x x4 oe o A F) {c m : Nat} (hc : c < n) (hm : m ≤ h c) :
  ∃ L H', aindexAddr cfg.P 22 x4 (.int .i64 (c : Nat)) = some (.pointer (some ⟨o, c, some L⟩)) ∧ setCells H G0.length o L c [.int .i64 ((m : Nat) : Int)] = some H' ∧ W34 G0 H' n h E xe x x4 oe o A (stF F c m) := by
 obtain ⟨id, H2, e, s1, s2, s3, s4, s5⟩ := own_setS T22 w.ow (i := c) (j := 0) hc (vs := [.int .i64 ((m : Nat) : Int)]) (by simp) rfl (prot := G0.length) (fun id e => by cases e; exact w.lo)
 cases e
 rw [faL_put _ hc] at s3
 rw [Nat.mul_one] at s1
 rw [Nat.mul_one, Nat.add_zero] at s2
 obtain ⟨_, _, _, _, _, gd⟩ := w.ow
 refine ⟨_, H2, s1, s2, ⟨w.rd.stayE gd (by decide) s4, s3, w.e.stay s4 (fun id e1 e2 => by cases e1; exact w.ne (Option.some.inj e2).symm), w.ne, w.lo, fun v hv => ?_⟩⟩
 unfold stF
 split
 ·rename_i ev; subst ev; exact hm
 ·exact w.up v hv
section
variable {G0 : AHeap} {n : Nat} {A : Nat → Nat → Bool} {o h E : Nat → Nat} {xe x x4 : Value} {oe ow prot : Nat}
theorem loop34f (hn : n ≤ 512) (hh : HtW A n o h) (hb : ∀ c, c < n → h c ≤ 1000) {t b : Int} {c : Nat} (hc : c < n) : ∀ (k d : Nat) (F : Nat → Nat) (H : AHeap), d + k = n → W34 G0 H n h E xe x x4 oe ow A F → o c ≤ F c →
   (∀ e, e < d → e ≠ c → A c e = true → F e + o c ≤ F c) →
  ∃ (F' : Nat → Nat) (H' : AHeap), lpInf (lpOf cfg a34 7 prot G0) ([.int .i64 n, xe, x, x4, .int .i64 b, .int .i64 t, .int .i64 c, .int .i64 ((o c : Nat) : Int), .int .i64 d], H) = some (.exit 14, [.int .i64 n, xe, x, x4, .int .i64 b, .int .i64 t, .int .i64 c], H') ∧ W34 G0 H' n h E xe x x4 oe ow A F' ∧ o c ≤ F' c ∧
   (∀ e, e < n → e ≠ c → A c e = true → F' e + o c ≤ F' c) ∧ (∀ e, e ≠ c → F' e = F e) ∧ F c ≤ F' c
 | 0, d, F, H, hd, hw, ho, hF => by
  have : d = n := by omega
  subst this
  obtain ⟨_, _, rfl⟩ := hw.rd.len
  obtain ⟨_, _, rfl⟩ := hw.ow.len
  obtain ⟨_, _, rfl⟩ := hw.e.len
  exact ⟨F, H, lp_last (f34_L7_3 (by omega)), hw, ho, hF, fun _ _ => rfl, Nat.le_refl _⟩
 | k + 1, d, F, H, hd, hw, ho, hF => by
  have hdn : d < n := by omega
  have fi : Fit .i64 ((d : Int) + 1) := fit64 (by omega) (by omega)
  obtain ⟨ax, cx, hx⟩ := hw.rd.len
  obtain ⟨a4, c4, hx4⟩ := hw.ow.len
  obtain ⟨ae, ce, hxe⟩ := hw.e.len
  by_cases e : d = c
  ·obtain ⟨F', H', z1, z2⟩ := loop34f hn hh hb (t := t) (b := b) hc k (d + 1) F H (by omega) hw ho (fun e' h1 h2 h3 => hF e' (by omega) h2 h3)
   refine ⟨F', H', ?_, z2⟩
   subst hx; subst hx4; subst hxe
   exact lp_next (f34_L7_2 (by omega) (by simp [e]) fi) z1
  ·have hne : ((d : Int) != (c : Int)) = true := by simp; omega
   obtain ⟨i1, L1, a1, a2⟩ := set_rd34 hw.rd hc
   have h20 := Am23g.c20 (S := A c) (show d < 512 by omega) G0.length H
   cases hA : A c d with
   | false =>
    obtain ⟨F', H', z1, z2⟩ := loop34f hn hh hb (t := t) (b := b) hc k (d + 1) F H (by omega) hw ho (fun e' h1 h2 h3 => by
     by_cases e0 : e' = d
     ·subst e0; rw [hA] at h3; cases h3
     ·exact hF e' (by omega) h2 h3)
    refine ⟨F', H', ?_, z2⟩
    subst hx; subst hx4; subst hxe
    exact lp_next (f34_L7_1 (x184 := setA (A c)) (by omega) hne a1 a2 h20 hA fi) z1
   | true =>
    have hge := hh.ge c d hc hdn e hA
    have hud := hw.up d hdn
    have huc := hw.up c hc
    have hbc := hb c hc
    obtain ⟨i2, L2, d1, d2⟩ := own_at T22 hw.ow (faL_get hdn)
    obtain ⟨i3, L3, e1, e2⟩ := own_at T22 hw.ow (faL_get hc)
    obtain ⟨L, H2, s1, s2, s3⟩ := hw.put (m := max (o c + F d) (F c)) hc (by omega)
    have st1 : stF F c (max (o c + F d) (F c)) c = max (o c + F d) (F c) := by unfold stF; rw [if_pos rfl]
    have st2 : ∀ v, v ≠ c → stF F c (max (o c + F d) (F c)) v = F v := fun v hv => by unfold stF; rw [if_neg hv]
    obtain ⟨F', H', z1, z2, z3, z4, z5, z6⟩ := loop34f hn hh hb (t := t) (b := b) hc k (d + 1) _ H2 (by omega) s3 (by rw [st1]; omega) (fun e' h1 h2 h3 => by
     rw [st1, st2 e' h2]
     by_cases e0 : e' = d
     ·subst e0; omega
     ·have := hF e' (by omega) h2 h3; omega)
    rw [st1] at z6
    refine ⟨F', H', ?_, z2, z3, z4, fun e' he' => by rw [z5 e' he', st2 e' he'], by omega⟩
    have hif : (if ((o c : Nat) : Int) + ((F d : Nat) : Int) > ((F c : Nat) : Int) then ((o c : Nat) : Int) + ((F d : Nat) : Int) else ((F c : Nat) : Int)) = ((max (o c + F d) (F c) : Nat) : Int) := by split <;> omega
    rw [← hif] at s2
    subst hx; subst hx4; subst hxe
    exact lp_next (f34_L7_0 (x184 := setA (A c)) (by omega) hne a1 a2 h20 hA e1 e2 d1 d2 (fit64 (by omega) (by omega)) s1 rfl s2 fi) z1
theorem loop34g (hn : n ≤ 512) (hh : HtW A n o h) {r : Nat → Nat} (hr : Ht A n r) (hb : ∀ c, c < n → h c ≤ 1000) (ho : ∀ c, c < n → o c = min 1 (E c)) {t : Nat} : ∀ (k c b : Nat) (F : Nat → Nat) (H : AHeap), c + k = n → W34 G0 H n h E xe x x4 oe ow A F →
   (∀ e, e < n → r e < t → h e ≤ F e) → (∀ e, e < c → r e < t + 1 → h e ≤ F e) → (∀ e, e < c → F e ≤ b) → b ≤ topH h n →
  ∃ (F' : Nat → Nat) (b' : Nat) (H' : AHeap), lpInf (lpOf cfg a34 6 prot G0) ([.int .i64 n, xe, x, x4, .int .i64 b, .int .i64 t, .int .i64 c], H) = some (.exit 12, [.int .i64 n, xe, x, x4, .int .i64 b', .int .i64 t], H') ∧ W34 G0 H' n h E xe x x4 oe ow A F' ∧
   (∀ e, e < n → r e < t + 1 → h e ≤ F' e) ∧ (∀ e, e < n → F' e ≤ b') ∧ b' ≤ topH h n
 | 0, c, b, F, H, hd, hw, h1, h2, h3, h4 => by
  have : c = n := by omega
  subst this
  obtain ⟨_, _, rfl⟩ := hw.rd.len
  obtain ⟨_, _, rfl⟩ := hw.ow.len
  obtain ⟨_, _, rfl⟩ := hw.e.len
  exact ⟨F, b, H, lp_last (f34_L6_1 (by omega)), hw, h2, h3, h4⟩
 | k + 1, c, b, F, H, hd, hw, h1, h2, h3, h4 => by
  have hc : c < n := by omega
  obtain ⟨i1, L1, a1, a2⟩ := own_at T22 hw.e (faL_get hc)
  obtain ⟨i2, L2, b1, b2⟩ := own_at T22 hw.ow (faL_get hc)
  have hoc := ho c hc
  have hown := hh.own c hc
  have huc := hw.up c hc
  obtain ⟨L, H1, s1, s2, s3⟩ := hw.put (m := max (o c) (F c)) hc (by omega)
  have st1 : stF F c (max (o c) (F c)) c = max (o c) (F c) := by unfold stF; rw [if_pos rfl]
  have st2 : ∀ v, v ≠ c → stF F c (max (o c) (F c)) v = F v := fun v hv => by unfold stF; rw [if_neg hv]
  obtain ⟨F1, H2, y1, y2, y3, y4, y5, y6⟩ := loop34f (prot := prot) hn hh hb (t := (t : Int)) (b := (b : Int)) hc n 0 _ H1 (by omega) s3 (by rw [st1]; omega) (fun e he => by omega)
  rw [st1] at y6
  have y5' : ∀ v, v ≠ c → F1 v = F v := fun v hv => by rw [y5 v hv, st2 v hv]
  have hmono : ∀ v, F v ≤ F1 v := fun v => by
   by_cases e : v = c
   ·subst e; omega
   ·rw [y5' v e]; exact Nat.le_refl _
  obtain ⟨i3, L3, c1, c2⟩ := own_at T22 y2.ow (faL_get hc)
  have hup1 := y2.up c hc
  have htop := topH_le (h := h) hc
  obtain ⟨F', b', H', z1, z2⟩ := loop34g hn hh hr hb ho k (c + 1) (max (F1 c) b) F1 H2 (by omega) y2 (fun e he hre => Nat.le_trans (h1 e he hre) (hmono e)) (fun e he hre => by
   by_cases e0 : e = c
   ·subst e0
    rcases hh.ex e hc with g | ⟨d, d1, d2, d3, g⟩
    ·omega
    ·have a := y4 d d1 d2 d3
     have := hr.ge e d hc d1 d2 d3
     have := h1 d d1 (by omega)
     rw [y5' d d2] at a
     omega
   ·exact Nat.le_trans (h2 e (by omega) hre) (hmono e)) (fun e he => by
   by_cases e0 : e = c
   ·subst e0; omega
   ·rw [y5' e e0]; have := h3 e (by omega); omega) (by omega)
  refine ⟨F', b', H', ?_, z2⟩
  have hmin : (if ((E c : Nat) : Int) < 1 then ((E c : Nat) : Int) else 1) = ((o c : Nat) : Int) := by split <;> omega
  have hif : (if ((F1 c : Nat) : Int) > ((b : Nat) : Int) then ((F1 c : Nat) : Int) else ((b : Nat) : Int)) = ((max (F1 c) b : Nat) : Int) := by split <;> omega
  have hif2 : (if (if ((E c : Nat) : Int) < 1 then ((E c : Nat) : Int) else 1) > ((F c : Nat) : Int) then (if ((E c : Nat) : Int) < 1 then ((E c : Nat) : Int) else 1) else ((F c : Nat) : Int)) = ((max (o c) (F c) : Nat) : Int) := by
   rw [hmin]; split <;> omega
  rw [← hif2] at s2
  rw [← hif] at z1
  rw [← hmin] at y1
  obtain ⟨_, _, rfl⟩ := hw.rd.len
  obtain ⟨_, _, rfl⟩ := hw.ow.len
  obtain ⟨_, _, rfl⟩ := hw.e.len
  exact lp_next (f34_L6_0 (by omega) a1 a2 b1 b2 s1 rfl s2 y1 c1 c2 (fit64 (by omega) (by omega))) z1
theorem loop34h (hn : n ≤ 512) (hh : HtW A n o h) {r : Nat → Nat} (hr : Ht A n r) (hb : ∀ c, c < n → h c ≤ 1000) (ho : ∀ c, c < n → o c = min 1 (E c)) : ∀ (k t b : Nat) (F : Nat → Nat) (H : AHeap), t + k = n + 1 → W34 G0 H n h E xe x x4 oe ow A F →
   (∀ e, e < n → r e < t → h e ≤ F e) → (0 < t → ∀ e, e < n → F e ≤ b) → b ≤ topH h n →
  ∃ H', lpInf (lpOf cfg a34 5 prot G0) ([.int .i64 n, xe, x, x4, .int .i64 b, .int .i64 t], H) = some (.exit 10, [.int .i64 ((topH h n : Nat) : Int)], H')
 | 0, t, b, F, H, hd, hw, h1, h2, h3 => by
  have hbt : b = topH h n := by
   rcases topH_ex (h := h) (n := n) with e | ⟨c, c1, c2⟩
   ·omega
   ·have := h1 c c1 (by have := hr.lt c c1; omega)
    have := h2 (by omega) c c1
    omega
  subst hbt
  obtain ⟨_, _, rfl⟩ := hw.rd.len
  obtain ⟨_, _, rfl⟩ := hw.ow.len
  obtain ⟨_, _, rfl⟩ := hw.e.len
  exact ⟨H, lp_last (f34_L5_1 (by omega))⟩
 | k + 1, t, b, F, H, hd, hw, h1, h2, h3 => by
  obtain ⟨F1, b1, H1, y1, y2, y3, y4, y5⟩ := loop34g (prot := prot) hn hh hr hb ho (t := t) n 0 b F H (by omega) hw h1 (fun e he => by omega) (fun e he => by omega) h3
  obtain ⟨H', z1⟩ := loop34h hn hh hr hb ho k (t + 1) b1 F1 H1 (by omega) y2 y3 (fun _ => y4) y5
  refine ⟨H', ?_⟩
  obtain ⟨_, _, rfl⟩ := hw.rd.len
  obtain ⟨_, _, rfl⟩ := hw.ow.len
  obtain ⟨_, _, rfl⟩ := hw.e.len
  exact lp_next (f34_L5_0 (by omega) y1 (fit64 (by omega) (by omega))) z1
end
end Go.Proofs.Ythjkodbinkiifaa.Am23
namespace Go.Proofs.Ythjkodbinkiifaa.Am23
open Go Go.Proofs.Ythjkodbinkiifaa.Am
open Am23g (addE Out Mine out_start gc_mine Gr nl Rch RQ sc comp Lc abv Abv abv_iff chk Short Lc_lt comp_n T46)
theorem make_zero {n : Nat} (hn : 0 < n) (H : AHeap) : Own (H ++ [AObj.cells (repCells [.int .i64 0] n) 3 (repCells [.int .i64 0] n).length .row]) 3 1 (.slice (some ⟨H.length, 0, some (n * 1)⟩) n n) (some H.length) n (il (faL (fun _ => 0) n)) := by
 have := own_mk (e := 3) hn H (.int .i64 0)
 rw [← rep0]
 have e : List.replicate n (Value.int .i64 0) = repCells [.int .i64 0] n := by
  have := rep_map (fun n => Value.int .i64 ((n : Nat) : Int)) 0 n
  rw [show Value.int .i64 0 = (fun n => Value.int .i64 ((n : Nat) : Int)) 0 from rfl, this, List.map_replicate]
 rw [← e]
 rw [← e] at this
 exact this
theorem c34 {k : Int} {xs : List Int} {bs : List Bool} {vN vA : Value} (prot : Nat) (H : AHeap) (hA : IsA H xs bs vN vA) :
  callInf cfg 34 [av k vN vA] prot H = some (.tuple #[.int .i64 (growV k xs bs).1, .bool (growV k xs bs).2, .int .i64 (chkG k xs bs)], H) := by
 have hck := c41 (k := k) H.length (H ++ [bx k vN vA]) (hA.stay (Stay.app none H _))
 have hg : (H ++ [bx k vN vA])[H.length]? = some (bx k vN vA) := append_get.1
 obtain ⟨aN, cN, hNe⟩ := hA.n.len
 obtain ⟨aA, cA, hAe⟩ := hA.a.len
 subst hNe; subst hAe
 obtain ⟨_, _, _, g3⟩ := fld3 hg
 unfold growV
 by_cases h0 : chkG k xs bs = 0
 ·obtain ⟨k, rfl, hG⟩ := good_of h0
  rw [Int.toNat_natCast]
  rw [h0] at hck ⊢
  have hb1 := hG.n1
  have hb5 := hG.n5
  have hk8 := hG.k8
  obtain ⟨HX, hHX⟩ : ∃ HX, HX = H ++ [bx (k : Int) (.slice aN xs.length cN) (.slice aA bs.length cA)] := ⟨_, rfl⟩
  have lX : HX.length = H.length + 1 := by rw [hHX]; simp
  have sX : Stay none H HX := by rw [hHX]; exact Stay.app none H _
  have hgX : HX[H.length]? = some (bx (k : Int) (.slice aN xs.length cN) (.slice aA bs.length cA)) := by rw [hHX]; exact hg
  obtain ⟨pu, cu, H1, u1, u2, u3⟩ := c59 hG H.length HX (hA.stay sX)
  have l1 := u3.1
  have hg1 : H1[H.length]? = some (bx (k : Int) (.slice aN xs.length cN) (.slice aA bs.length cA)) := by rw [u3.2 _ (by omega) (by simp)]; exact hgX
  obtain ⟨xg, H2, r1, r2, r3⟩ := loop34a hG (prot := prot) hg1 (hA.stay (sX.trans u3)) u2.rd (by omega) bs.length 0 (.slice none 0 0) none [] H1 (by omega) (Stay.refl _ _) own_nil (fun id h => by cases h) (fun j hj => by omega)
  have l2 := r3.1
  obtain ⟨hsh, hchk⟩ := gU_good hG
  have hGr := gr_of r2
  have hgo := Am23g.good_of hsh hchk
  obtain ⟨x71, H3, a1, a2, a3⟩ := Am23g.c42 hgo H.length hGr
  have l3 := a3.1
  have h512 : (gU k xs bs).length ≤ 512 := by rw [gU_len]; exact hb5
  obtain ⟨xl, H4, b1, b2, b3⟩ := Am23g.c41 h512 H.length a2.rd
  have l4 := b3.1
  obtain ⟨n, hn⟩ : ∃ n, n = gN k xs bs := ⟨_, rfl⟩
  have hn0 : 0 < n := by have := lc_lt (k := k) (xs := xs) hb1; omega
  have hn5 : n ≤ 512 := by rw [hn]; exact gN_le hG
  obtain ⟨HA, hHA⟩ : ∃ HA, HA = H4 ++ [AObj.cells (repCells [.int .i64 0] n) 3 (repCells [.int .i64 0] n).length .row] := ⟨_, rfl⟩
  have sA : Stay none H4 HA := by rw [hHA]; exact Stay.app none H4 _
  have lA : HA.length = H4.length + 1 := by rw [hHA, List.length_append, List.length_singleton]
  have mz := make_zero hn0 H4
  rw [← hHA] at mz
  obtain ⟨HB, hHB⟩ : ∃ HB, HB = HA ++ [AObj.cells (repCells [.int .i64 0] n) 3 (repCells [.int .i64 0] n).length .row] := ⟨_, rfl⟩
  have sB : Stay none HA HB := by rw [hHB]; exact Stay.app none HA _
  have me := make_zero hn0 HA
  rw [← hHB] at me
  have hE : E34 H4 HB n (.slice (some ⟨HA.length, 0, some (n * 1)⟩) n n) (.slice (some ⟨H4.length, 0, some (n * 1)⟩) n n) HA.length H4.length (fun _ => 0) (fun _ => 0) :=
   ⟨sA.trans sB, me, mz.stay sB (fun _ _ h => by cases h), by omega, by omega⟩
  have hcl : ∀ v, v < bs.length → (il (nl (comp (gU k xs bs)).1))[v]? = some (.int .i64 ((Lc (gU k xs bs) v : Nat) : Int)) := fun v hv => Am23g.comp_get (by rw [gU_len]; exact hv)
  have hRd : Rd H4 3 1 xl bs.length (il (nl (comp (gU k xs bs)).1)) := by have := b2.rd; rw [gU_len] at this; exact this
  have hrows : RowsR H4 xg bs.length (inL k xs (uB k xs bs)) := (r2.stay a3).stay b3
  obtain ⟨H5, z1, z2⟩ := loop34d hb5 (fun v hv => by rw [hn]; exact lc_lt hv) hcl (fun j t ht => uB_lt hG (inL_mem.1 ht).2.1) (fun j => by have := inL_len k xs (uB k xs bs) j; omega) hrows hRd (H0 := H) (by omega) (prot := prot) bs.length 0 _ _ HB (by omega) hE (fun _ => Nat.zero_le _) (fun _ => Nat.zero_le _)
  have z2' : E34 H4 H5 n (.slice (some ⟨HA.length, 0, some (n * 1)⟩) n n) (.slice (some ⟨H4.length, 0, some (n * 1)⟩) n n) HA.length H4.length (gE k xs bs) (gZ k xs bs) := z2
  have hgl : ∃ a c, xg = .slice a bs.length c := by obtain ⟨cs, hgr, _⟩ := r2; exact hgr.len
  obtain ⟨ag, cg, hxg⟩ := hgl
  obtain ⟨al, cl, hxl⟩ := hRd.len
  obtain ⟨a7, c7, hx7⟩ := a2.rd.len
  have b1' : callInf cfg 60 [x71] H.length H3 = some (.tuple #[xl, .int .i64 (n : Nat)], H4) := by rw [hn]; exact b1
  have loe := own_lt z2'.e
  have loz := own_lt z2'.z
  have l5 := z2'.st.1
  subst hxg; subst hxl; subst hx7
  rcases loop34e (H0 := H) (prot := prot) hn5 ⟨ag, _, cg, rfl⟩ z2' n 0 (by omega) (fun x hx => by omega) with ⟨⟨x, x1, x2⟩, y⟩ | ⟨x1, y⟩
  ·rw [if_neg (fun h => by have := h.2 x (by rw [← hn]; exact x1); omega)]
   subst hHB; subst hHA; subst hHX
   exact f34_F_2 all3 g3 hck rfl g3 u1 r1 a1 b1' (by omega) rfl (by omega) (by omega) z1 y
  ·rw [if_pos ⟨rfl, fun c hc => x1 c (by rw [hn]; exact hc)⟩]
   rcases Am23g.c24 hsh H.length (gr_of (hrows.stay z2'.st)) with ⟨hne, _⟩ | ⟨_, xa, H6, j1, j2, j3⟩
   ·exact absurd hchk hne
   have l6 := j3.1
   obtain ⟨HC, hHC⟩ : ∃ HC, HC = H6 ++ [AObj.cells (repCells [.int .i64 0] n) 3 (repCells [.int .i64 0] n).length .row] := ⟨_, rfl⟩
   have sC : Stay none H6 HC := by rw [hHC]; exact Stay.app none H6 _
   have mw := make_zero hn0 H6
   rw [← hHC] at mw
   have j2r := j2.rd
   have hnn : (comp (gU k xs bs)).2 = n := hn.symm
   rw [hnn] at j2r
   have hw : W34 H HC n (gW k xs bs) (gE k xs bs) (.slice (some ⟨HA.length, 0, some (n * 1)⟩) n n) xa (.slice (some ⟨H6.length, 0, some (n * 1)⟩) n n) HA.length H6.length (abv (gU k xs bs)) (fun _ => 0) :=
    ⟨j2r.stay sC, mw, (z2'.e.stay j3 (fun _ _ h => by cases h)).stay sC (fun _ _ h => by cases h), by omega, by omega, fun _ _ => Nat.zero_le _⟩
   have hwl : ∀ c, c < n → gW k xs bs c ≤ 1000 := fun c hc => by have := gW_le hG (c := c) (by omega); omega
   have hh := gW_ok (k := k) (xs := xs) (bs := bs)
   have hr := gR_ok (k := k) (xs := xs) (bs := bs)
   rw [← hn] at hh hr
   obtain ⟨H7, w1⟩ := loop34h (prot := prot) hn5 hh hr hwl (fun _ _ => rfl) (n + 1) 0 0 _ HC (by omega) hw (fun e _ he => by omega) (fun h => by omega) (Nat.zero_le _)
   have htop : topH (gW k xs bs) n ≤ 1000 := by
    rcases topH_ex (h := gW k xs bs) (n := n) with e | ⟨c, c1, c2⟩
    ·omega
    ·have := hwl c c1; omega
   rw [← hn]
   obtain ⟨aa, ca, hxa⟩ := j2r.len
   subst hxa
   subst hHC; subst hHB; subst hHA; subst hHX
   exact f34_F_1 all3 g3 hck rfl g3 u1 r1 a1 b1' (by omega) rfl (by omega) (by omega) z1 y j1 (by omega) rfl (by omega) (by omega) w1 (fit64 (by omega) (by omega))
 ·rw [if_neg (fun h => h0 h.1)]
  exact f34_F_0 all3 g3 hck (by simpa using h0)
end Go.Proofs.Ythjkodbinkiifaa.Am23
set_option linter.unusedVariables false
open Go Go.Proofs.Ythjkodbinkiifaa.Am
namespace Go.Proofs.Ythjkodbinkiifaa.Am23
section
variable {x0a x1 x16a x17 z1 x124 x9 x10 z10 x13 z13 x14 x68 x72a x75 x110 x114 x92 x96 x101 : Int}
variable {x0ba x0ca x16ba x16ca x29a z7a z8a z7a_2 z8a_2 x7a x8a x42a z11a z12a x11a x12a x72ba x72ca : Option Addr}
variable {x0bn x0bc x0cn x0cc prot x16bn x16bc x16cn x16cc x29n x29c z2p z2o z2l z7n z7c z8n z8c z7n_2 z7c_2 z8n_2 z8c_2 x120p x120o x120l x123p x123o x123l x2p x2o x2l x7n x7c x8n x8c x42n x42c x44p x44o x44l x48p x48o x48l z11n z11c z12n z12c x11n x11c x12n x12c x72bn x72bc x72cn x72cc x80p x80o x80l x104p x104o x104l x109p x109o x109l x113p x113o x113l x116p x116o x116l x85p x85o x85l x91p x91o x91l x95p x95o x95l x100p x100o x100l : Nat}
variable {H H1 H2 H0 H3 : AHeap}
variable {x121 x45 x81 x86 : Bool}
theorem f32_F_0 (h1 : [vI x0a, vS x0ba x0bn x0bc, vS x0ca x0cn x0cc].all isCell = true) (h2 : getCells (H ++ [vo [vI x0a, vS x0ba x0bn x0bc, vS x0ca x0cn x0cc] 25]) H.length 3 0 3 = some [vI x16a, vS x16ba x16bn x16bc, vS x16ca x16cn x16cc]) (h3 : cI 41 [Value.agg #[vI x16a, vS x16ba x16bn x16bc, vS x16ca x16cn x16cc]] H.length (H ++ [vo [vI x0a, vS x0ba x0bn x0bc, vS x0ca x0cn x0cc] 25]) = some (vI x17, H ++ [vo [vI x0a, vS x0ba x0bn x0bc, vS x0ca x0cn x0cc] 25])) (h4 : (x17 != 0) = true) : callInf cfg 32 [.agg #[.int .i64 x0a, .slice x0ba x0bn x0bc, .slice x0ca x0cn x0cc], .int .i64 x1] prot H = some (Value.tuple { toList := [Value.int .u64 0, Value.int .i64 x17] }, H) :=
 fn_of2 a32 [.e, .v (.agg #[vI x16a, vS x16ba x16bn x16bc, vS x16ca x16cn x16cc]), .v (vI x17), .e, .b true] (ai h1 (ai h2 (ai h3 (ai h4 (Eq.refl ((Value.tuple #[Value.int .u64 0, vI x17], H) : Value × AHeap)))))) (by kernel_rfl) rfl
theorem f32_F_1 (h1 : [vI x0a, vS x0ba x0bn x0bc, vS x0ca x0cn x0cc].all isCell = true) (h2 : getCells (H ++ [vo [vI x0a, vS x0ba x0bn x0bc, vS x0ca x0cn x0cc] 25]) H.length 3 0 3 = some [vI x16a, vS x16ba x16bn x16bc, vS x16ca x16cn x16cc]) (h3 : cI 41 [Value.agg #[vI x16a, vS x16ba x16bn x16bc, vS x16ca x16cn x16cc]] H.length (H ++ [vo [vI x0a, vS x0ba x0bn x0bc, vS x0ca x0cn x0cc] 25]) = some (vI x17, H ++ [vo [vI x0a, vS x0ba x0bn x0bc, vS x0ca x0cn x0cc] 25])) (h4 : (x17 != 0) = false) (h5 : x1 < 0) : callInf cfg 32 [.agg #[.int .i64 x0a, .slice x0ba x0bn x0bc, .slice x0ca x0cn x0cc], .int .i64 x1] prot H = some (Value.tuple { toList := [Value.int .u64 0, Value.int .i64 1] }, H) :=
 fn_of2 a32 [.e, .v (.agg #[vI x16a, vS x16ba x16bn x16bc, vS x16ca x16cn x16cc]), .v (vI x17), .e, .b false, .e, .b true] (ai h1 (ai h2 (ai h3 (ai h4 (ai (decide_eq_true h5) (Eq.refl ((Value.tuple #[Value.int .u64 0, vI 1], H) : Value × AHeap))))))) (by kernel_rfl) rfl
theorem f32_F_2 (h1 : [vI x0a, vS x0ba x0bn x0bc, vS x0ca x0cn x0cc].all isCell = true) (h2 : getCells (H ++ [vo [vI x0a, vS x0ba x0bn x0bc, vS x0ca x0cn x0cc] 25]) H.length 3 0 3 = some [vI x16a, vS x16ba x16bn x16bc, vS x16ca x16cn x16cc]) (h3 : cI 41 [Value.agg #[vI x16a, vS x16ba x16bn x16bc, vS x16ca x16cn x16cc]] H.length (H ++ [vo [vI x0a, vS x0ba x0bn x0bc, vS x0ca x0cn x0cc] 25]) = some (vI x17, H ++ [vo [vI x0a, vS x0ba x0bn x0bc, vS x0ca x0cn x0cc] 25])) (h4 : (x17 != 0) = false) (h5 : ¬(x1 < 0)) (h6 : x1 > 4096) : callInf cfg 32 [.agg #[.int .i64 x0a, .slice x0ba x0bn x0bc, .slice x0ca x0cn x0cc], .int .i64 x1] prot H = some (Value.tuple { toList := [Value.int .u64 0, Value.int .i64 6] }, H) :=
 fn_of2 a32 [.e, .v (.agg #[vI x16a, vS x16ba x16bn x16bc, vS x16ca x16cn x16cc]), .v (vI x17), .e, .b false, .e, .b false, .e, .b true] (ai h1 (ai h2 (ai h3 (ai h4 (ai (decide_eq_false h5) (ai (decide_eq_true h6) (Eq.refl ((Value.tuple #[Value.int .u64 0, vI 6], H) : Value × AHeap)))))))) (by kernel_rfl) rfl
theorem f32_F_3 (h1 : [vI x0a, vS x0ba x0bn x0bc, vS x0ca x0cn x0cc].all isCell = true) (h2 : getCells (H ++ [vo [vI x0a, vS x0ba x0bn x0bc, vS x0ca x0cn x0cc] 25]) H.length 3 0 3 = some [vI x16a, vS x16ba x16bn x16bc, vS x16ca x16cn x16cc]) (h3 : cI 41 [Value.agg #[vI x16a, vS x16ba x16bn x16bc, vS x16ca x16cn x16cc]] H.length (H ++ [vo [vI x0a, vS x0ba x0bn x0bc, vS x0ca x0cn x0cc] 25]) = some (vI x17, H ++ [vo [vI x0a, vS x0ba x0bn x0bc, vS x0ca x0cn x0cc] 25])) (h4 : (x17 != 0) = false) (h5 : ¬(x1 < 0)) (h6 : ¬(x1 > 4096)) (h7 : getCells (H ++ [vo [vI x0a, vS x0ba x0bn x0bc, vS x0ca x0cn x0cc] 25]) H.length 3 (0 + 2) 1 = some [vS x29a x29n x29c]) (h8 : 0 ≤ (↑x29n : Int)) (h9 : (↑x29n : Int) = (↑x29n : Int)) (h10 : (↑x29n : Int) ≤ 9223372036854775807) (h11 : (↑8 : Int) * (↑x29n : Int) ≤ 2 ^ 48) (h12 : 0 ≤ (↑(↑x29n : Int).toNat : Int)) (h13 : (↑(↑x29n : Int).toNat : Int) = (↑(↑x29n : Int).toNat : Int)) (h14 : (↑(↑x29n : Int).toNat : Int) ≤ 9223372036854775807) (h15 : (↑1 : Int) * (↑(↑x29n : Int).toNat : Int) ≤ 2 ^ 48) (h16 : lI a32 0 prot H ([vI x1, vP H.length 0 3, vS (some ⟨List.length (H ++ [vo [vI x0a, vS x0ba x0bn x0bc, vS x0ca x0cn x0cc] 25]), 0, some ((↑x29n : Int).toNat * 1)⟩) (↑x29n : Int).toNat (↑x29n : Int).toNat, vS (some ⟨List.length (H ++ [vo [vI x0a, vS x0ba x0bn x0bc, vS x0ca x0cn x0cc] 25] ++ [AObj.cells (repCells [Value.int .u64 0] (↑x29n : Int).toNat) 33 (repCells [Value.int .u64 0] (↑x29n : Int).toNat).length OMode.row]), 0, some ((↑(↑x29n : Int).toNat : Int).toNat * 1)⟩) (↑(↑x29n : Int).toNat : Int).toNat (↑(↑x29n : Int).toNat : Int).toNat, vI 0], H ++ [vo [vI x0a, vS x0ba x0bn x0bc, vS x0ca x0cn x0cc] 25] ++ [AObj.cells (repCells [Value.int .u64 0] (↑x29n : Int).toNat) 33 (repCells [Value.int .u64 0] (↑x29n : Int).toNat).length OMode.row] ++ [AObj.cells (repCells [Value.bool false] (↑(↑x29n : Int).toNat : Int).toNat) 4 (repCells [Value.bool false] (↑(↑x29n : Int).toNat : Int).toNat).length OMode.row]) = some (Ex.exit 1, [vI z1, vP z2p z2o z2l, vS z7a z7n z7c, vS z8a z8n z8c], H1)) (h17 : lI a32 1 prot H ([vI z1, vP z2p z2o z2l, vS z7a z7n z7c, vS z8a z8n z8c, vI 0], H1) = some (Ex.exit 3, [vS z7a_2 z7n_2 z7c_2, vS z8a_2 z8n_2 z8c_2], H2)) (h18 : aX 23 (vS z8a_2 z8n_2 z8c_2) (vI 0) = some (vP x120p x120o x120l)) (h19 : getCells H2 x120p x120l x120o 1 = some [Value.bool x121]) (h20 : x121 = true) : callInf cfg 32 [.agg #[.int .i64 x0a, .slice x0ba x0bn x0bc, .slice x0ca x0cn x0cc], .int .i64 x1] prot H = some (Value.tuple { toList := [Value.int .u64 0, Value.int .i64 11] }, H) :=
 fn_of2 a32 [.e, .v (.agg #[vI x16a, vS x16ba x16bn x16bc, vS x16ca x16cn x16cc]), .v (vI x17), .e, .b false, .e, .b false, .e, .b false, .v (vS x29a x29n x29c), .e, .e, .e, .e, .lo (.exit 1, [vI z1, vP z2p z2o z2l, vS z7a z7n z7c, vS z8a z8n z8c], H1), .lo (.exit 3, [vS z7a_2 z7n_2 z7c_2, vS z8a_2 z8n_2 z8c_2], H2), .v (vP x120p x120o x120l), .v (.bool x121), .b true] (ai h1 (ai h2 (ai h3 (ai h4 (ai (decide_eq_false h5) (ai (decide_eq_false h6) (ai h7 (ai h8 (ai h9 (ai h10 (ai h11 (ai h12 (ai h13 (ai h14 (ai h15 (ai h16 (ai h17 (ai h18 (ai h19 (ai h20 (Eq.refl ((Value.tuple #[Value.int .u64 0, vI 11], H) : Value × AHeap)))))))))))))))))))))) (by kernel_rfl) rfl
theorem f32_F_4 (h1 : [vI x0a, vS x0ba x0bn x0bc, vS x0ca x0cn x0cc].all isCell = true) (h2 : getCells (H ++ [vo [vI x0a, vS x0ba x0bn x0bc, vS x0ca x0cn x0cc] 25]) H.length 3 0 3 = some [vI x16a, vS x16ba x16bn x16bc, vS x16ca x16cn x16cc]) (h3 : cI 41 [Value.agg #[vI x16a, vS x16ba x16bn x16bc, vS x16ca x16cn x16cc]] H.length (H ++ [vo [vI x0a, vS x0ba x0bn x0bc, vS x0ca x0cn x0cc] 25]) = some (vI x17, H ++ [vo [vI x0a, vS x0ba x0bn x0bc, vS x0ca x0cn x0cc] 25])) (h4 : (x17 != 0) = false) (h5 : ¬(x1 < 0)) (h6 : ¬(x1 > 4096)) (h7 : getCells (H ++ [vo [vI x0a, vS x0ba x0bn x0bc, vS x0ca x0cn x0cc] 25]) H.length 3 (0 + 2) 1 = some [vS x29a x29n x29c]) (h8 : 0 ≤ (↑x29n : Int)) (h9 : (↑x29n : Int) = (↑x29n : Int)) (h10 : (↑x29n : Int) ≤ 9223372036854775807) (h11 : (↑8 : Int) * (↑x29n : Int) ≤ 2 ^ 48) (h12 : 0 ≤ (↑(↑x29n : Int).toNat : Int)) (h13 : (↑(↑x29n : Int).toNat : Int) = (↑(↑x29n : Int).toNat : Int)) (h14 : (↑(↑x29n : Int).toNat : Int) ≤ 9223372036854775807) (h15 : (↑1 : Int) * (↑(↑x29n : Int).toNat : Int) ≤ 2 ^ 48) (h16 : lI a32 0 prot H ([vI x1, vP H.length 0 3, vS (some ⟨List.length (H ++ [vo [vI x0a, vS x0ba x0bn x0bc, vS x0ca x0cn x0cc] 25]), 0, some ((↑x29n : Int).toNat * 1)⟩) (↑x29n : Int).toNat (↑x29n : Int).toNat, vS (some ⟨List.length (H ++ [vo [vI x0a, vS x0ba x0bn x0bc, vS x0ca x0cn x0cc] 25] ++ [AObj.cells (repCells [Value.int .u64 0] (↑x29n : Int).toNat) 33 (repCells [Value.int .u64 0] (↑x29n : Int).toNat).length OMode.row]), 0, some ((↑(↑x29n : Int).toNat : Int).toNat * 1)⟩) (↑(↑x29n : Int).toNat : Int).toNat (↑(↑x29n : Int).toNat : Int).toNat, vI 0], H ++ [vo [vI x0a, vS x0ba x0bn x0bc, vS x0ca x0cn x0cc] 25] ++ [AObj.cells (repCells [Value.int .u64 0] (↑x29n : Int).toNat) 33 (repCells [Value.int .u64 0] (↑x29n : Int).toNat).length OMode.row] ++ [AObj.cells (repCells [Value.bool false] (↑(↑x29n : Int).toNat : Int).toNat) 4 (repCells [Value.bool false] (↑(↑x29n : Int).toNat : Int).toNat).length OMode.row]) = some (Ex.exit 1, [vI z1, vP z2p z2o z2l, vS z7a z7n z7c, vS z8a z8n z8c], H1)) (h17 : lI a32 1 prot H ([vI z1, vP z2p z2o z2l, vS z7a z7n z7c, vS z8a z8n z8c, vI 0], H1) = some (Ex.exit 3, [vS z7a_2 z7n_2 z7c_2, vS z8a_2 z8n_2 z8c_2], H2)) (h18 : aX 23 (vS z8a_2 z8n_2 z8c_2) (vI 0) = some (vP x120p x120o x120l)) (h19 : getCells H2 x120p x120l x120o 1 = some [Value.bool x121]) (h20 : x121 = false) (h21 : aX 66 (vS z7a_2 z7n_2 z7c_2) (vI 0) = some (vP x123p x123o x123l)) (h22 : getCells H2 x123p x123l x123o 1 = some [Value.int .u64 x124]) : callInf cfg 32 [.agg #[.int .i64 x0a, .slice x0ba x0bn x0bc, .slice x0ca x0cn x0cc], .int .i64 x1] prot H = some (Value.tuple { toList := [Value.int .u64 x124, Value.int .i64 0] }, H) :=
 fn_of2 a32 [.e, .v (.agg #[vI x16a, vS x16ba x16bn x16bc, vS x16ca x16cn x16cc]), .v (vI x17), .e, .b false, .e, .b false, .e, .b false, .v (vS x29a x29n x29c), .e, .e, .e, .e, .lo (.exit 1, [vI z1, vP z2p z2o z2l, vS z7a z7n z7c, vS z8a z8n z8c], H1), .lo (.exit 3, [vS z7a_2 z7n_2 z7c_2, vS z8a_2 z8n_2 z8c_2], H2), .v (vP x120p x120o x120l), .v (.bool x121), .b false, .v (vP x123p x123o x123l), .v (.int .u64 x124)] (ai h1 (ai h2 (ai h3 (ai h4 (ai (decide_eq_false h5) (ai (decide_eq_false h6) (ai h7 (ai h8 (ai h9 (ai h10 (ai h11 (ai h12 (ai h13 (ai h14 (ai h15 (ai h16 (ai h17 (ai h18 (ai h19 (ai h20 (ai h21 (ai h22 (Eq.refl ((Value.tuple #[Value.int .u64 x124, vI 0], H) : Value × AHeap)))))))))))))))))))))))) (by kernel_rfl) rfl
theorem f32_L0_0 (h1 : x9 < (↑x7n : Int)) (h2 : getCells H x2p x2l (x2o + 2) 1 = some [vS x42a x42n x42c]) (h3 : aX 23 (vS x42a x42n x42c) (vI x9) = some (vP x44p x44o x44l)) (h4 : getCells H x44p x44l x44o 1 = some [Value.bool x45]) (h5 : x45 = true) (h6 : aX 66 (vS x7a x7n x7c) (vI x9) = some (vP x48p x48o x48l)) (h7 : 1 = 1) (h8 : setCells H H0.length x48p x48l x48o [Value.int .u64 1] = some H2) (h9 : Fit .i64 (x9 + 1)) : lpOf cfg a32 0 prot H0 ([.int .i64 x1, .pointer (some ⟨x2p, x2o, some x2l⟩), .slice x7a x7n x7c, .slice x8a x8n x8c, .int .i64 x9], H) = some (Sum.inl ([Value.int .i64 x1, Value.pointer (some ⟨x2p, x2o, some x2l⟩), Value.slice x7a x7n x7c, Value.slice x8a x8n x8c, Value.int .i64 (x9 + 1)], H2)) :=
 lp_of2 [.e, .e, .b true, .v (vS x42a x42n x42c), .v (vP x44p x44o x44l), .v (.bool x45), .b true, .v (vP x48p x48o x48l), .h H2, .e] (ai (decide_eq_true h1) (ai h2 (ai h3 (ai h4 (ai h5 (ai h6 (ai h7 (ai h8 (ai h9 (Eq.refl (Sum.inl ([vI x1, vP x2p x2o x2l, vS x7a x7n x7c, vS x8a x8n x8c, vI (x9 + 1)], H2) : LS ⊕ LO))))))))))) (by kernel_rfl)
theorem f32_L0_1 (h1 : x9 < (↑x7n : Int)) (h2 : getCells H x2p x2l (x2o + 2) 1 = some [vS x42a x42n x42c]) (h3 : aX 23 (vS x42a x42n x42c) (vI x9) = some (vP x44p x44o x44l)) (h4 : getCells H x44p x44l x44o 1 = some [Value.bool x45]) (h5 : x45 = false) (h6 : Fit .i64 (x9 + 1)) : lpOf cfg a32 0 prot H0 ([.int .i64 x1, .pointer (some ⟨x2p, x2o, some x2l⟩), .slice x7a x7n x7c, .slice x8a x8n x8c, .int .i64 x9], H) = some (Sum.inl ([Value.int .i64 x1, Value.pointer (some ⟨x2p, x2o, some x2l⟩), Value.slice x7a x7n x7c, Value.slice x8a x8n x8c, Value.int .i64 (x9 + 1)], H)) :=
 lp_of2 [.e, .e, .b true, .v (vS x42a x42n x42c), .v (vP x44p x44o x44l), .v (.bool x45), .b false, .e] (ai (decide_eq_true h1) (ai h2 (ai h3 (ai h4 (ai h5 (ai h6 (Eq.refl (Sum.inl ([vI x1, vP x2p x2o x2l, vS x7a x7n x7c, vS x8a x8n x8c, vI (x9 + 1)], H) : LS ⊕ LO)))))))) (by kernel_rfl)
theorem f32_L0_2 (h1 : ¬(x9 < (↑x7n : Int))) : lpOf cfg a32 0 prot H0 ([.int .i64 x1, .pointer (some ⟨x2p, x2o, some x2l⟩), .slice x7a x7n x7c, .slice x8a x8n x8c, .int .i64 x9], H) = some (Sum.inr (Ex.exit 1, [Value.int .i64 x1, Value.pointer (some ⟨x2p, x2o, some x2l⟩), Value.slice x7a x7n x7c, Value.slice x8a x8n x8c], H)) :=
 lp_of2 [.e, .e, .b false] (ai (decide_eq_false h1) (Eq.refl (Sum.inr (Ex.exit 1, [vI x1, vP x2p x2o x2l, vS x7a x7n x7c, vS x8a x8n x8c], H) : LS ⊕ LO))) (by kernel_rfl)
theorem f32_L1_0 (h1 : x10 < x1) (h2 : 0 ≤ (↑x7n : Int)) (h3 : (↑x7n : Int) = (↑x7n : Int)) (h4 : (↑x7n : Int) ≤ 9223372036854775807) (h5 : (↑8 : Int) * (↑x7n : Int) ≤ 2 ^ 48) (h6 : (↑1 : Int) * (↑x7n : Int) ≤ 2 ^ 48) (h7 : lI a32 2 prot H0 ([vI x1, vP x2p x2o x2l, vS x7a x7n x7c, vS x8a x8n x8c, vI x10, vS (some ⟨H.length, 0, some ((↑x7n : Int).toNat * 1)⟩) (↑x7n : Int).toNat (↑x7n : Int).toNat, vS (some ⟨List.length (H ++ [AObj.cells (repCells [Value.int .u64 0] (↑x7n : Int).toNat) 33 (repCells [Value.int .u64 0] (↑x7n : Int).toNat).length OMode.row]), 0, some ((↑x7n : Int).toNat * 1)⟩) (↑x7n : Int).toNat (↑x7n : Int).toNat, vI 0], H ++ [AObj.cells (repCells [Value.int .u64 0] (↑x7n : Int).toNat) 33 (repCells [Value.int .u64 0] (↑x7n : Int).toNat).length OMode.row] ++ [AObj.cells (repCells [Value.bool false] (↑x7n : Int).toNat) 4 (repCells [Value.bool false] (↑x7n : Int).toNat).length OMode.row]) = some (Ex.exit 5, [vI z1, vP z2p z2o z2l, vI z10, vS z11a z11n z11c, vS z12a z12n z12c], H2)) (h8 : Fit .i64 (z10 + 1)) : lpOf cfg a32 1 prot H0 ([.int .i64 x1, .pointer (some ⟨x2p, x2o, some x2l⟩), .slice x7a x7n x7c, .slice x8a x8n x8c, .int .i64 x10], H) = some (Sum.inl ([Value.int .i64 z1, Value.pointer (some ⟨z2p, z2o, some z2l⟩), Value.slice z11a z11n z11c, Value.slice z12a z12n z12c, Value.int .i64 (z10 + 1)], H2)) :=
 lp_of2 [.e, .b true, .e, .e, .e, .e, .lo (.exit 5, [vI z1, vP z2p z2o z2l, vI z10, vS z11a z11n z11c, vS z12a z12n z12c], H2), .e] (ai (decide_eq_true h1) (ai h2 (ai h3 (ai h4 (ai h5 (ai h2 (ai h3 (ai h4 (ai h6 (ai h7 (ai h8 (Eq.refl (Sum.inl ([vI z1, vP z2p z2o z2l, vS z11a z11n z11c, vS z12a z12n z12c, vI (z10 + 1)], H2) : LS ⊕ LO))))))))))))) (by kernel_rfl)
theorem f32_L1_1 (h1 : ¬(x10 < x1)) : lpOf cfg a32 1 prot H0 ([.int .i64 x1, .pointer (some ⟨x2p, x2o, some x2l⟩), .slice x7a x7n x7c, .slice x8a x8n x8c, .int .i64 x10], H) = some (Sum.inr (Ex.exit 3, [Value.slice x7a x7n x7c, Value.slice x8a x8n x8c], H)) :=
 lp_of2 [.e, .b false] (ai (decide_eq_false h1) (Eq.refl (Sum.inr (Ex.exit 3, [vS x7a x7n x7c, vS x8a x8n x8c], H) : LS ⊕ LO))) (by kernel_rfl)
theorem f32_L2_0 (h1 : x13 < (↑x7n : Int)) (h2 : lI a32 3 prot H0 ([vI x1, vP x2p x2o x2l, vS x7a x7n x7c, vS x8a x8n x8c, vI x10, vS x11a x11n x11c, vS x12a x12n x12c, vI x13, vI 0], H) = some (Ex.exit 7, [vI z1, vP z2p z2o z2l, vS z7a z7n z7c, vS z8a z8n z8c, vI z10, vS z11a z11n z11c, vS z12a z12n z12c, vI z13], H2)) (h3 : Fit .i64 (z13 + 1)) : lpOf cfg a32 2 prot H0 ([.int .i64 x1, .pointer (some ⟨x2p, x2o, some x2l⟩), .slice x7a x7n x7c, .slice x8a x8n x8c, .int .i64 x10, .slice x11a x11n x11c, .slice x12a x12n x12c, .int .i64 x13], H) = some (Sum.inl ([Value.int .i64 z1, Value.pointer (some ⟨z2p, z2o, some z2l⟩), Value.slice z7a z7n z7c, Value.slice z8a z8n z8c, Value.int .i64 z10, Value.slice z11a z11n z11c, Value.slice z12a z12n z12c, Value.int .i64 (z13 + 1)], H2)) :=
 lp_of2 [.e, .e, .b true, .lo (.exit 7, [vI z1, vP z2p z2o z2l, vS z7a z7n z7c, vS z8a z8n z8c, vI z10, vS z11a z11n z11c, vS z12a z12n z12c, vI z13], H2), .e] (ai (decide_eq_true h1) (ai h2 (ai h3 (Eq.refl (Sum.inl ([vI z1, vP z2p z2o z2l, vS z7a z7n z7c, vS z8a z8n z8c, vI z10, vS z11a z11n z11c, vS z12a z12n z12c, vI (z13 + 1)], H2) : LS ⊕ LO))))) (by kernel_rfl)
theorem f32_L2_1 (h1 : ¬(x13 < (↑x7n : Int))) : lpOf cfg a32 2 prot H0 ([.int .i64 x1, .pointer (some ⟨x2p, x2o, some x2l⟩), .slice x7a x7n x7c, .slice x8a x8n x8c, .int .i64 x10, .slice x11a x11n x11c, .slice x12a x12n x12c, .int .i64 x13], H) = some (Sum.inr (Ex.exit 5, [Value.int .i64 x1, Value.pointer (some ⟨x2p, x2o, some x2l⟩), Value.int .i64 x10, Value.slice x11a x11n x11c, Value.slice x12a x12n x12c], H)) :=
 lp_of2 [.e, .e, .b false] (ai (decide_eq_false h1) (Eq.refl (Sum.inr (Ex.exit 5, [vI x1, vP x2p x2o x2l, vI x10, vS x11a x11n x11c, vS x12a x12n x12c], H) : LS ⊕ LO))) (by kernel_rfl)
theorem f32_L3_0 (h1 : getCells H x2p x2l (x2o + 0) 1 = some [vI x68]) (h2 : x14 < x68) (h3 : getCells H x2p x2l x2o 3 = some [vI x72a, vS x72ba x72bn x72bc, vS x72ca x72cn x72cc]) (h4 : cI 58 [Value.agg #[vI x72a, vS x72ba x72bn x72bc, vS x72ca x72cn x72cc], vI x13, vI x14] H0.length H = some (vI x75, H)) (h5 : aX 23 (vS x12a x12n x12c) (vI x13) = some (vP x80p x80o x80l)) (h6 : getCells H x80p x80l x80o 1 = some [Value.bool x81]) (h7 : x81 = true) (h8 : aX 23 (vS x12a x12n x12c) (vI x13) = some (vP x104p x104o x104l)) (h9 : 1 = 1) (h10 : setCells H H0.length x104p x104l x104o [Value.bool true] = some H2) (h11 : aX 66 (vS x11a x11n x11c) (vI x13) = some (vP x109p x109o x109l)) (h12 : getCells H2 x109p x109l x109o 1 = some [Value.int .u64 x110]) (h13 : aX 66 (vS x7a x7n x7c) (vI x75) = some (vP x113p x113o x113l)) (h14 : getCells H2 x113p x113l x113o 1 = some [Value.int .u64 x114]) (h15 : aX 66 (vS x11a x11n x11c) (vI x13) = some (vP x116p x116o x116l)) (h16 : 1 = 1) (h17 : setCells H2 H0.length x116p x116l x116o [Value.int .u64 (IntKind.u64.wrap (x110 + x114))] = some H3) (h18 : Fit .i64 (x14 + 1)) : lpOf cfg a32 3 prot H0 ([.int .i64 x1, .pointer (some ⟨x2p, x2o, some x2l⟩), .slice x7a x7n x7c, .slice x8a x8n x8c, .int .i64 x10, .slice x11a x11n x11c, .slice x12a x12n x12c, .int .i64 x13, .int .i64 x14], H) = some (Sum.inl ([Value.int .i64 x1, Value.pointer (some ⟨x2p, x2o, some x2l⟩), Value.slice x7a x7n x7c, Value.slice x8a x8n x8c, Value.int .i64 x10, Value.slice x11a x11n x11c, Value.slice x12a x12n x12c, Value.int .i64 x13, Value.int .i64 (x14 + 1)], H3)) :=
 lp_of2 [.v (vI x68), .e, .b true, .v (.agg #[vI x72a, vS x72ba x72bn x72bc, vS x72ca x72cn x72cc]), .v (vI x75), .v (vP x80p x80o x80l), .v (.bool x81), .b true, .b true, .b true, .b true, .b true, .b true, .b true, .b true, .b true, .b true, .b true, .b true, .b true, .b true, .b true, .b true, .b true, .b true, .b true, .b true, .v (vP x104p x104o x104l), .h H2, .v (vP x109p x109o x109l), .v (.int .u64 x110), .v (vP x113p x113o x113l), .v (.int .u64 x114), .e, .v (vP x116p x116o x116l), .h H3, .e] (ai h1 (ai (decide_eq_true h2) (ai h3 (ai h4 (ai h5 (ai h6 (ai h7 (ai h7 (ai h7 (ai h7 (ai h7 (ai (Eq.refl true) (ai (Eq.refl true) (ai (Eq.refl true) (ai (Eq.refl true) (ai (Eq.refl true) (ai (Eq.refl true) (ai (Eq.refl true) (ai (Eq.refl true) (ai (Eq.refl true) (ai (Eq.refl true) (ai (Eq.refl true) (ai (Eq.refl true) (ai (Eq.refl true) (ai (Eq.refl true) (ai (Eq.refl true) (ai h8 (ai h9 (ai h10 (ai h11 (ai h12 (ai h13 (ai h14 (ai h15 (ai h16 (ai h17 (ai h18 (Eq.refl (Sum.inl ([vI x1, vP x2p x2o x2l, vS x7a x7n x7c, vS x8a x8n x8c, vI x10, vS x11a x11n x11c, vS x12a x12n x12c, vI x13, vI (x14 + 1)], H3) : LS ⊕ LO))))))))))))))))))))))))))))))))))))))) (by kernel_rfl)
theorem f32_L3_1 (h1 : getCells H x2p x2l (x2o + 0) 1 = some [vI x68]) (h2 : x14 < x68) (h3 : getCells H x2p x2l x2o 3 = some [vI x72a, vS x72ba x72bn x72bc, vS x72ca x72cn x72cc]) (h4 : cI 58 [Value.agg #[vI x72a, vS x72ba x72bn x72bc, vS x72ca x72cn x72cc], vI x13, vI x14] H0.length H = some (vI x75, H)) (h5 : aX 23 (vS x12a x12n x12c) (vI x13) = some (vP x80p x80o x80l)) (h6 : getCells H x80p x80l x80o 1 = some [Value.bool x81]) (h7 : x81 = false) (h8 : aX 23 (vS x8a x8n x8c) (vI x75) = some (vP x85p x85o x85l)) (h9 : getCells H x85p x85l x85o 1 = some [Value.bool x86]) (h10 : x86 = true) (h11 : aX 23 (vS x12a x12n x12c) (vI x13) = some (vP x104p x104o x104l)) (h12 : 1 = 1) (h13 : setCells H H0.length x104p x104l x104o [Value.bool true] = some H2) (h14 : aX 66 (vS x11a x11n x11c) (vI x13) = some (vP x109p x109o x109l)) (h15 : getCells H2 x109p x109l x109o 1 = some [Value.int .u64 x110]) (h16 : aX 66 (vS x7a x7n x7c) (vI x75) = some (vP x113p x113o x113l)) (h17 : getCells H2 x113p x113l x113o 1 = some [Value.int .u64 x114]) (h18 : aX 66 (vS x11a x11n x11c) (vI x13) = some (vP x116p x116o x116l)) (h19 : 1 = 1) (h20 : setCells H2 H0.length x116p x116l x116o [Value.int .u64 (IntKind.u64.wrap (x110 + x114))] = some H3) (h21 : Fit .i64 (x14 + 1)) : lpOf cfg a32 3 prot H0 ([.int .i64 x1, .pointer (some ⟨x2p, x2o, some x2l⟩), .slice x7a x7n x7c, .slice x8a x8n x8c, .int .i64 x10, .slice x11a x11n x11c, .slice x12a x12n x12c, .int .i64 x13, .int .i64 x14], H) = some (Sum.inl ([Value.int .i64 x1, Value.pointer (some ⟨x2p, x2o, some x2l⟩), Value.slice x7a x7n x7c, Value.slice x8a x8n x8c, Value.int .i64 x10, Value.slice x11a x11n x11c, Value.slice x12a x12n x12c, Value.int .i64 x13, Value.int .i64 (x14 + 1)], H3)) :=
 lp_of2 [.v (vI x68), .e, .b true, .v (.agg #[vI x72a, vS x72ba x72bn x72bc, vS x72ca x72cn x72cc]), .v (vI x75), .v (vP x80p x80o x80l), .v (.bool x81), .b false, .b false, .b false, .v (vP x85p x85o x85l), .b false, .v (.bool x86), .b false, .b true, .b true, .b true, .b true, .b true, .b true, .b true, .b true, .b true, .b true, .b true, .b true, .b true, .b true, .b true, .v (vP x104p x104o x104l), .h H2, .v (vP x109p x109o x109l), .v (.int .u64 x110), .v (vP x113p x113o x113l), .v (.int .u64 x114), .e, .v (vP x116p x116o x116l), .h H3, .e] (ai h1 (ai (decide_eq_true h2) (ai h3 (ai h4 (ai h5 (ai h6 (ai h7 (ai h7 (ai h7 (ai h8 (ai h7 (ai h9 (ai h7 (ai h10 (ai h10 (ai h10 (ai h10 (ai h10 (ai h10 (ai h10 (ai h10 (ai h10 (ai h10 (ai h10 (ai h10 (ai h10 (ai h10 (ai h10 (ai h11 (ai h12 (ai h13 (ai h14 (ai h15 (ai h16 (ai h17 (ai h18 (ai h19 (ai h20 (ai h21 (Eq.refl (Sum.inl ([vI x1, vP x2p x2o x2l, vS x7a x7n x7c, vS x8a x8n x8c, vI x10, vS x11a x11n x11c, vS x12a x12n x12c, vI x13, vI (x14 + 1)], H3) : LS ⊕ LO))))))))))))))))))))))))))))))))))))))))) (by kernel_rfl)
theorem f32_L3_2 (h1 : getCells H x2p x2l (x2o + 0) 1 = some [vI x68]) (h2 : x14 < x68) (h3 : getCells H x2p x2l x2o 3 = some [vI x72a, vS x72ba x72bn x72bc, vS x72ca x72cn x72cc]) (h4 : cI 58 [Value.agg #[vI x72a, vS x72ba x72bn x72bc, vS x72ca x72cn x72cc], vI x13, vI x14] H0.length H = some (vI x75, H)) (h5 : aX 23 (vS x12a x12n x12c) (vI x13) = some (vP x80p x80o x80l)) (h6 : getCells H x80p x80l x80o 1 = some [Value.bool x81]) (h7 : x81 = false) (h8 : aX 23 (vS x8a x8n x8c) (vI x75) = some (vP x85p x85o x85l)) (h9 : getCells H x85p x85l x85o 1 = some [Value.bool x86]) (h10 : x86 = false) (h11 : aX 66 (vS x11a x11n x11c) (vI x13) = some (vP x91p x91o x91l)) (h12 : getCells H x91p x91l x91o 1 = some [Value.int .u64 x92]) (h13 : aX 66 (vS x7a x7n x7c) (vI x75) = some (vP x95p x95o x95l)) (h14 : getCells H x95p x95l x95o 1 = some [Value.int .u64 x96]) (h15 : aX 66 (vS x7a x7n x7c) (vI x75) = some (vP x100p x100o x100l)) (h16 : getCells H x100p x100l x100o 1 = some [Value.int .u64 x101]) (h17 : aX 23 (vS x12a x12n x12c) (vI x13) = some (vP x104p x104o x104l)) (h18 : 1 = 1) (h19 : setCells H H0.length x104p x104l x104o [Value.bool (decide (IntKind.u64.wrap (x92 + x96) < x101))] = some H2) (h20 : aX 66 (vS x11a x11n x11c) (vI x13) = some (vP x109p x109o x109l)) (h21 : getCells H2 x109p x109l x109o 1 = some [Value.int .u64 x110]) (h22 : aX 66 (vS x7a x7n x7c) (vI x75) = some (vP x113p x113o x113l)) (h23 : getCells H2 x113p x113l x113o 1 = some [Value.int .u64 x114]) (h24 : aX 66 (vS x11a x11n x11c) (vI x13) = some (vP x116p x116o x116l)) (h25 : 1 = 1) (h26 : setCells H2 H0.length x116p x116l x116o [Value.int .u64 (IntKind.u64.wrap (x110 + x114))] = some H3) (h27 : Fit .i64 (x14 + 1)) : lpOf cfg a32 3 prot H0 ([.int .i64 x1, .pointer (some ⟨x2p, x2o, some x2l⟩), .slice x7a x7n x7c, .slice x8a x8n x8c, .int .i64 x10, .slice x11a x11n x11c, .slice x12a x12n x12c, .int .i64 x13, .int .i64 x14], H) = some (Sum.inl ([Value.int .i64 x1, Value.pointer (some ⟨x2p, x2o, some x2l⟩), Value.slice x7a x7n x7c, Value.slice x8a x8n x8c, Value.int .i64 x10, Value.slice x11a x11n x11c, Value.slice x12a x12n x12c, Value.int .i64 x13, Value.int .i64 (x14 + 1)], H3)) :=
 lp_of2 [.v (vI x68), .e, .b true, .v (.agg #[vI x72a, vS x72ba x72bn x72bc, vS x72ca x72cn x72cc]), .v (vI x75), .v (vP x80p x80o x80l), .v (.bool x81), .b false, .b false, .b false, .v (vP x85p x85o x85l), .b false, .v (.bool x86), .b false, .b false, .b false, .b false, .v (vP x91p x91o x91l), .b false, .v (.int .u64 x92), .b false, .b false, .b false, .v (vP x95p x95o x95l), .b false, .v (.int .u64 x96), .b false, .e, .b false, .b false, .b false, .v (vP x100p x100o x100l), .b false, .v (.int .u64 x101), .b false, .e, .b false, .v (vP x104p x104o x104l), .h H2, .v (vP x109p x109o x109l), .v (.int .u64 x110), .v (vP x113p x113o x113l), .v (.int .u64 x114), .e, .v (vP x116p x116o x116l), .h H3, .e] (ai h1 (ai (decide_eq_true h2) (ai h3 (ai h4 (ai h5 (ai h6 (ai h7 (ai h7 (ai h7 (ai h8 (ai h7 (ai h9 (ai h7 (ai h10 (ai h10 (ai h10 (ai h11 (ai h10 (ai h12 (ai h10 (ai h10 (ai h10 (ai h13 (ai h10 (ai h14 (ai h10 (ai h10 (ai h10 (ai h10 (ai h15 (ai h10 (ai h16 (ai h10 (ai h10 (ai h17 (ai h18 (ai h19 (ai h20 (ai h21 (ai h22 (ai h23 (ai h24 (ai h25 (ai h26 (ai h27 (Eq.refl (Sum.inl ([vI x1, vP x2p x2o x2l, vS x7a x7n x7c, vS x8a x8n x8c, vI x10, vS x11a x11n x11c, vS x12a x12n x12c, vI x13, vI (x14 + 1)], H3) : LS ⊕ LO))))))))))))))))))))))))))))))))))))))))))))))) (by kernel_rfl)
theorem f32_L3_3 (h1 : getCells H x2p x2l (x2o + 0) 1 = some [vI x68]) (h2 : ¬(x14 < x68)) : lpOf cfg a32 3 prot H0 ([.int .i64 x1, .pointer (some ⟨x2p, x2o, some x2l⟩), .slice x7a x7n x7c, .slice x8a x8n x8c, .int .i64 x10, .slice x11a x11n x11c, .slice x12a x12n x12c, .int .i64 x13, .int .i64 x14], H) = some (Sum.inr (Ex.exit 7, [Value.int .i64 x1, Value.pointer (some ⟨x2p, x2o, some x2l⟩), Value.slice x7a x7n x7c, Value.slice x8a x8n x8c, Value.int .i64 x10, Value.slice x11a x11n x11c, Value.slice x12a x12n x12c, Value.int .i64 x13], H)) :=
 lp_of2 [.v (vI x68), .e, .b false] (ai h1 (ai (decide_eq_false h2) (Eq.refl (Sum.inr (Ex.exit 7, [vI x1, vP x2p x2o x2l, vS x7a x7n x7c, vS x8a x8n x8c, vI x10, vS x11a x11n x11c, vS x12a x12n x12c, vI x13], H) : LS ⊕ LO)))) (by kernel_rfl)
end
end Go.Proofs.Ythjkodbinkiifaa.Am23
namespace Go.Proofs.Ythjkodbinkiifaa.Am23
open Go Go.Proofs.Ythjkodbinkiifaa.Am
/-! The document's Count. -/
theorem pass_add (k : Nat) (xs : List Int) (C : List Nat) : ∀ (a b i : Nat) (D : List Nat), pass k xs C (a + b) i D = pass k xs C b (i + a) (pass k xs C a i D)
 | 0, b, i, D => by rw [Nat.zero_add]; rfl
 | a + 1, b, i, D => by
  rw [show a + 1 + b = (a + b) + 1 by omega, pass, pass, pass_add k xs C a b, show i + 1 + a = i + (a + 1) by omega]
theorem tgt_at {k : Nat} {xs : List Int} {s c : Nat} : (xs.getD (s * k + c) 0).toNat = tgt k xs s c := rfl
theorem u64_sum (c e : Nat) : IntKind.u64.wrap ((((c % 18446744073709551616 : Nat) : Int)) + ((e % 18446744073709551616 : Nat) : Int)) = (((c + e) % 18446744073709551616 : Nat) : Int) := by
 rw [show ((((c % 18446744073709551616 : Nat) : Int)) + ((e % 18446744073709551616 : Nat) : Int)) = ((c % 18446744073709551616 + e % 18446744073709551616 : Nat) : Int) from (Int.natCast_add _ _).symm]
 simp only [IntKind.wrap]
 show (if (false && decide (((c % 18446744073709551616 + e % 18446744073709551616 : Nat) : Int) % (18446744073709551616 : Int) ≥ (9223372036854775808 : Int))) = true then ((c % 18446744073709551616 + e % 18446744073709551616 : Nat) : Int) % (18446744073709551616 : Int) - 18446744073709551616 else ((c % 18446744073709551616 + e % 18446744073709551616 : Nat) : Int) % (18446744073709551616 : Int)) = _
 rw [if_neg (by simp)]
 omega
theorem loop32l {k : Nat} {xs : List Int} {bs : List Bool} (hG : Good k xs bs) {H0 : AHeap} {prot s : Nat} (hs : s < bs.length) {x1 x10 : Int} {vN vA x7 x8 x11 x12 : Value} (hva : ∃ p n c, vA = .slice p n c) {o7 o8 o11 o12 : Nat} {C : List Nat} (hC : C.length = bs.length) : ∀ (d l : Nat) (D : List Nat) (H : AHeap), l + d = k → D.length = bs.length →
  St2 k xs bs H0 H vN vA x7 x8 x11 x12 o7 o8 o11 o12 C D →
  ∃ H', lpInf (lpOf cfg a32 3 prot H0) ([.int .i64 x1, .pointer (some ⟨H0.length, 0, some 3⟩), x7, x8, .int .i64 x10, x11, x12, .int .i64 s, .int .i64 l], H) =
   some (.exit 7, [.int .i64 x1, .pointer (some ⟨H0.length, 0, some 3⟩), x7, x8, .int .i64 x10, x11, x12, .int .i64 s], H') ∧ St2 k xs bs H0 H' vN vA x7 x8 x11 x12 o7 o8 o11 o12 C (pass k xs C d (s * k + l) D)
 | 0, l, D, H, hi, hD, h => by
  obtain ⟨g0, _⟩ := fld3 h.b
  obtain ⟨_, _, rfl⟩ := h.h7.len
  obtain ⟨_, _, rfl⟩ := h.h8.len
  obtain ⟨_, _, rfl⟩ := h.h11.len
  obtain ⟨_, _, rfl⟩ := h.h12.len
  obtain ⟨_, _, rfl⟩ := h.n.len
  exact ⟨H, lp_last (f32_L3_3 g0 (by omega)), h⟩
 | d + 1, l, D, H, hi, hD, h => by
  have h58 := c58 hG hs (show l < k by omega) H0.length H h.n hva
  obtain ⟨a7, c7, rfl⟩ := h.h7.len
  obtain ⟨a8, c8, rfl⟩ := h.h8.len
  obtain ⟨a11, c11, rfl⟩ := h.h11.len
  obtain ⟨a12, c12, rfl⟩ := h.h12.len
  obtain ⟨aN, cN, rfl⟩ := h.n.len
  have hva0 := hva
  obtain ⟨pA, nA, cA, rfl⟩ := hva0
  have hk := hG.k1
  have hk8 := hG.k8
  obtain ⟨_, htl, _⟩ := tgt_lt hG hs (show l < k by omega)
  have hdiv : (s * k + l) / k = s := by
   rw [Nat.mul_comm, Nat.mul_add_div (by omega), Nat.div_eq_of_lt (by omega), Nat.add_zero]
  obtain ⟨g0, g1, g2, g3⟩ := fld3 h.b
  obtain ⟨t, htd⟩ : ∃ t, tgt k xs s l = t := ⟨_, rfl⟩
  rw [htd] at h58 htl
  have hDs : (cu D)[s]? = some (fu (D.getD s 0)) := by simp [cu, List.getD_eq_getElem?_getD, List.getElem?_eq_getElem (show s < D.length by omega)]
  have hDb : (cb D)[s]? = some (fb (D.getD s 0)) := by simp [cb, List.getD_eq_getElem?_getD, List.getElem?_eq_getElem (show s < D.length by omega)]
  have hCt : (cu C)[t]? = some (fu (C.getD t 0)) := by simp [cu, List.getD_eq_getElem?_getD, List.getElem?_eq_getElem (show t < C.length by omega)]
  have hCb : (cb C)[t]? = some (fb (C.getD t 0)) := by simp [cb, List.getD_eq_getElem?_getD, List.getElem?_eq_getElem (show t < C.length by omega)]
  obtain ⟨c, hcdef⟩ : ∃ c, D.getD s 0 = c := ⟨_, rfl⟩
  obtain ⟨e, hedef⟩ : ∃ e, C.getD t 0 = e := ⟨_, rfl⟩
  have hpass : pass k xs C (d + 1) (s * k + l) D = pass k xs C d (s * k + (l + 1)) (D.set s (c + e)) := by
   rw [pass, hdiv, tgt_at, htd, hcdef, hedef, Nat.add_assoc]
  rw [hcdef] at hDs hDb
  rw [hedef] at hCt hCb
  obtain ⟨_, f1, r1, r2⟩ := own_at T23 h.h12 hDb
  cases f1
  obtain ⟨_, f2, b1, b2⟩ := own_at T23 h.h8 hCb
  cases f2
  obtain ⟨_, f3, p1, p2⟩ := own_at T66 h.h11 hDs
  cases f3
  obtain ⟨_, f4, q1, q2⟩ := own_at T66 h.h7 hCt
  cases f4
  -- first what is over, then the sum
  obtain ⟨_, H2, f5, t1, t2, t3, t4, t5⟩ := own_setS T23 h.h12 (i := s) (j := 0) hs (vs := [fb (c + e)]) (by simp) rfl (prot := H0.length) (fun id hh => by cases hh; have := h.l12; omega)
  cases f5
  rw [show cb D = D.map fb from rfl, put_map fb D (by omega)] at t3
  have w11 := h.h11.stay t4 (fun id h1 h2 => by cases h1; cases h2; exact h.d5 rfl)
  have w8 := h.h8.stay t4 (fun id h1 h2 => by cases h1; cases h2; exact h.d4 rfl)
  have w7 := h.h7.stay t4 (fun id h1 h2 => by cases h1; cases h2; exact h.d2 rfl)
  obtain ⟨_, f6, p3, p4⟩ := own_at T66 w11 hDs
  cases f6
  obtain ⟨_, f7, q3, q4⟩ := own_at T66 w7 hCt
  cases f7
  obtain ⟨_, H3, f8, s1, s2, s3, s4, s5⟩ := own_setS T66 w11 (i := s) (j := 0) hs (vs := [fu (c + e)]) (by simp) rfl (prot := H0.length) (fun id hh => by cases hh; have := h.l11; omega)
  cases f8
  rw [show cu D = D.map fu from rfl, put_map fu D (by omega)] at s3
  have hbx : H3[H0.length]? = some (bx k (.slice aN xs.length cN) (.slice pA nA cA)) := by
   rw [s4.2 _ (by have := (List.getElem?_eq_some_iff.1 h.b).1; omega) (fun hh => by cases hh; have := h.l11; omega), t4.2 _ (List.getElem?_eq_some_iff.1 h.b).1 (fun hh => by cases hh; have := h.l12; omega)]
   exact h.b
  have hst : St2 k xs bs H0 H3 (.slice aN xs.length cN) (.slice pA nA cA) (.slice a7 bs.length c7) (.slice a8 bs.length c8) (.slice a11 bs.length c11) (.slice a12 bs.length c12) o7 o8 o11 o12 C (D.set s (c + e)) :=
   ⟨hbx, (h.n.stayLow h.lo t4 (fun id hh => by cases hh; have := h.l12; omega)).stayLow h.lo s4 (fun id hh => by cases hh; have := h.l11; omega), h.lo,
    w7.stay s4 (fun id h1 h2 => by cases h1; cases h2; exact h.d1 rfl), w8.stay s4 (fun id h1 h2 => by cases h1; cases h2; exact h.d3 rfl), s3, t3.stay s4 (fun id h1 h2 => by cases h1; cases h2; exact h.d5 rfl), h.l7, h.l8, h.l11, h.l12, h.d1, h.d2, h.d3, h.d4, h.d5, h.d6⟩
  obtain ⟨H', z1, z2⟩ := loop32l hG hs (prot := prot) (x1 := x1) (x10 := x10) hva hC d (l + 1) _ H3 (by omega) (by rw [List.length_set]; exact hD) hst
  refine ⟨H', ?_, by rw [hpass]; exact z2⟩
  have fl : Fit .i64 ((l : Int) + 1) := fit64 (by omega) (by omega)
  have hsum := u64_sum c e
  have s2' : setCells H2 H0.length o11 (cu D).length (s * 1 + 0) [.int .u64 (IntKind.u64.wrap ((((c % 18446744073709551616 : Nat) : Int)) + ((e % 18446744073709551616 : Nat) : Int)))] = some H3 := by
   rw [hsum]; exact s2
  by_cases hc : 18446744073709551616 ≤ c
  ·have e1 : fb c = .bool true := by unfold fb; rw [decide_eq_true hc]
   have e2 : fb (c + e) = .bool true := by unfold fb; rw [decide_eq_true (by omega)]
   rw [e1] at r2
   rw [e2] at t2
   exact lp_next (f32_L3_0 g0 (by omega) g3 h58 r1 r2 rfl t1 rfl t2 p3 p4 q3 q4 s1 rfl s2' fl) z1
  ·have e1 : fb c = .bool false := by unfold fb; rw [decide_eq_false hc]
   rw [e1] at r2
   by_cases he : 18446744073709551616 ≤ e
   ·have e2 : fb (c + e) = .bool true := by unfold fb; rw [decide_eq_true (by omega)]
    have e3 : fb e = .bool true := by unfold fb; rw [decide_eq_true he]
    rw [e3] at b2
    rw [e2] at t2
    exact lp_next (f32_L3_1 g0 (by omega) g3 h58 r1 r2 rfl b1 b2 rfl t1 rfl t2 p3 p4 q3 q4 s1 rfl s2' fl) z1
   ·have e3 : fb e = .bool false := by unfold fb; rw [decide_eq_false he]
    rw [e3] at b2
    have e2 : fb (c + e) = .bool (decide (IntKind.u64.wrap ((((c % 18446744073709551616 : Nat) : Int)) + ((e % 18446744073709551616 : Nat) : Int)) < ((e % 18446744073709551616 : Nat) : Int))) := by
     rw [hsum]
     refine congrArg Value.bool (decide_eq_decide.2 ?_)
     rw [Int.ofNat_lt]
     omega
    rw [e2] at t2
    exact lp_next (f32_L3_2 g0 (by omega) g3 h58 r1 r2 rfl b1 b2 rfl p1 p2 q1 q2 q1 q2 t1 rfl t2 p3 p4 q3 q4 s1 rfl s2' fl) z1
theorem loop32s {k : Nat} {xs : List Int} {bs : List Bool} (hG : Good k xs bs) {H0 : AHeap} {prot : Nat} {x1 x10 : Int} {vN vA x7 x8 x11 x12 : Value} (hva : ∃ p n c, vA = .slice p n c) {o7 o8 o11 o12 : Nat} {C : List Nat} (hC : C.length = bs.length) : ∀ (d s : Nat) (D : List Nat) (H : AHeap), s + d = bs.length → D.length = bs.length →
  St2 k xs bs H0 H vN vA x7 x8 x11 x12 o7 o8 o11 o12 C D →
  ∃ H', lpInf (lpOf cfg a32 2 prot H0) ([.int .i64 x1, .pointer (some ⟨H0.length, 0, some 3⟩), x7, x8, .int .i64 x10, x11, x12, .int .i64 s], H) =
   some (.exit 5, [.int .i64 x1, .pointer (some ⟨H0.length, 0, some 3⟩), .int .i64 x10, x11, x12], H') ∧ St2 k xs bs H0 H' vN vA x7 x8 x11 x12 o7 o8 o11 o12 C (pass k xs C (d * k) (s * k) D)
 | 0, s, D, H, hi, hD, h => by
  obtain ⟨_, _, rfl⟩ := h.h7.len
  obtain ⟨_, _, rfl⟩ := h.h8.len
  obtain ⟨_, _, rfl⟩ := h.h11.len
  obtain ⟨_, _, rfl⟩ := h.h12.len
  rw [Nat.zero_mul]
  exact ⟨H, lp_last (f32_L2_1 (by omega)), h⟩
 | d + 1, s, D, H, hi, hD, h => by
  have hn5 := hG.n5
  obtain ⟨H1, y1, y2⟩ := loop32l hG (show s < bs.length by omega) (prot := prot) (x1 := x1) (x10 := x10) hva hC k 0 D H (by omega) hD h
  rw [Nat.add_zero] at y2
  obtain ⟨H', z1, z2⟩ := loop32s hG (prot := prot) (x1 := x1) (x10 := x10) hva hC d (s + 1) _ H1 (by omega) (by rw [pass_len]; exact hD) y2
  refine ⟨H', ?_, ?_⟩
  ·obtain ⟨_, _, rfl⟩ := h.h7.len
   obtain ⟨_, _, rfl⟩ := h.h8.len
   obtain ⟨_, _, rfl⟩ := h.h11.len
   obtain ⟨_, _, rfl⟩ := h.h12.len
   exact lp_next (f32_L2_0 (by omega) y1 (fit64 (by omega) (by omega))) z1
  ·rw [show (d + 1) * k = k + d * k by rw [Nat.add_mul, Nat.one_mul, Nat.add_comm], pass_add, show s * k + k = (s + 1) * k by rw [Nat.add_mul, Nat.one_mul]]
   exact z2
theorem loop32r {k : Nat} {xs : List Int} {bs : List Bool} (hG : Good k xs bs) {H0 : AHeap} {prot : Nat} {m : Nat} (hm : m ≤ 4096) {vN vA : Value} (hva : ∃ p n c, vA = .slice p n c) : ∀ (d i : Nat) (x7 x8 : Value) (o7 o8 : Nat) (H : AHeap), i + d = m →
  St1 k xs bs H0 H vN vA x7 x8 o7 o8 (rowC k xs bs i) →
  ∃ y7 y8 o7' o8' H', lpInf (lpOf cfg a32 1 prot H0) ([.int .i64 m, .pointer (some ⟨H0.length, 0, some 3⟩), x7, x8, .int .i64 i], H) = some (.exit 3, [y7, y8], H') ∧ St1 k xs bs H0 H' vN vA y7 y8 o7' o8' (rowC k xs bs m)
 | 0, i, x7, x8, o7, o8, H, hi, h => by
  have : i = m := by omega
  subst this
  refine ⟨x7, x8, o7, o8, H, ?_, h⟩
  obtain ⟨_, _, rfl⟩ := h.h7.len
  obtain ⟨_, _, rfl⟩ := h.h8.len
  exact lp_last (f32_L1_1 (by omega))
 | d + 1, i, x7, x8, o7, o8, H, hi, h => by
  have hn1 := hG.n1
  have hn5 := hG.n5
  have hxl := hG.nx
  obtain ⟨HA, hHA⟩ : ∃ HA, HA = H ++ [AObj.cells (repCells [.int .u64 0] bs.length) 33 (repCells [.int .u64 0] bs.length).length .row] := ⟨_, rfl⟩
  obtain ⟨HB, hHB⟩ : ∃ HB, HB = HA ++ [AObj.cells (repCells [.bool false] bs.length) 4 (repCells [.bool false] bs.length).length .row] := ⟨_, rfl⟩
  have lA : HA.length = H.length + 1 := by rw [hHA]; simp
  have hAB : Stay none HA HB := by rw [hHB]; exact Stay.app none HA _
  have hHB' : Stay none H HB := (show Stay none H HA by rw [hHA]; exact Stay.app none H _).trans hAB
  have lb := (List.getElem?_eq_some_iff.1 h.b).1
  have m1 : Own HA 33 1 (.slice (some ⟨H.length, 0, some (bs.length * 1)⟩) bs.length bs.length) (some H.length) bs.length (cu (List.replicate bs.length 0)) := by
   rw [hHA]; exact own_make fu hn1 H (.int .u64 0) rfl
  have m2 : Own HB 4 1 (.slice (some ⟨HA.length, 0, some (bs.length * 1)⟩) bs.length bs.length) (some HA.length) bs.length (cb (List.replicate bs.length 0)) := by
   rw [hHB]; exact own_make fb hn1 HA (.bool false) rfl
  have st : St2 k xs bs H0 HB vN vA x7 x8 (.slice (some ⟨H.length, 0, some (bs.length * 1)⟩) bs.length bs.length) (.slice (some ⟨HA.length, 0, some (bs.length * 1)⟩) bs.length bs.length) o7 o8 H.length HA.length (rowC k xs bs i) (List.replicate bs.length 0) :=
   ⟨by rw [hHB'.2 _ lb (by simp)]; exact h.b, h.n.stay hHB', h.lo, h.h7.stay hHB' (fun _ _ h => by cases h), h.h8.stay hHB' (fun _ _ h => by cases h), m1.stay hAB (fun _ _ h => by cases h), m2, h.l7, h.l8, by omega, by omega, by have := own_lt h.h7; omega, by have := own_lt h.h7; omega, by have := own_lt h.h8; omega, by have := own_lt h.h8; omega, by omega, h.d6⟩
  obtain ⟨H1, u1, u2⟩ := loop32s hG (x1 := m) (x10 := i) (prot := prot) hva (rowC_len k xs bs i) bs.length 0 _ HB (by omega) (by simp) st
  have hrow : pass k xs (rowC k xs bs i) (bs.length * k) (0 * k) (List.replicate bs.length 0) = rowC k xs bs (i + 1) := by
   rw [Nat.zero_mul, ← hxl]; rfl
  rw [hrow] at u2
  have st' : St1 k xs bs H0 H1 vN vA (.slice (some ⟨H.length, 0, some (bs.length * 1)⟩) bs.length bs.length) (.slice (some ⟨HA.length, 0, some (bs.length * 1)⟩) bs.length bs.length) H.length HA.length (rowC k xs bs (i + 1)) :=
   ⟨u2.b, u2.n, u2.lo, u2.h11, u2.h12, u2.l11, u2.l12, u2.d5⟩
  obtain ⟨y7, y8, o7', o8', H', q1, q2⟩ := loop32r hG (prot := prot) hm hva d (i + 1) _ _ _ _ H1 (by omega) st'
  refine ⟨y7, y8, o7', o8', H', ?_, q2⟩
  obtain ⟨_, _, rfl⟩ := h.h7.len
  obtain ⟨_, _, rfl⟩ := h.h8.len
  subst hHB; subst hHA
  exact lp_next (f32_L1_0 (by omega) (by omega) rfl (by omega) (by omega) (by omega) u1 (fit64 (by omega) (by omega))) q1
theorem loop32i {k : Nat} {xs : List Int} {bs : List Bool} (hG : Good k xs bs) {H0 : AHeap} {prot : Nat} {m : Int} {vN vA x7 x8 : Value} {o7 o8 : Nat} : ∀ (d i : Nat) (H : AHeap), i + d = bs.length →
  St1 k xs bs H0 H vN vA x7 x8 o7 o8 ((bs.take i).map b2n ++ List.replicate d 0) → Rd H 4 1 vA bs.length (bll bs) → Low H0.length vA →
  ∃ H', lpInf (lpOf cfg a32 0 prot H0) ([.int .i64 m, .pointer (some ⟨H0.length, 0, some 3⟩), x7, x8, .int .i64 i], H) = some (.exit 1, [.int .i64 m, .pointer (some ⟨H0.length, 0, some 3⟩), x7, x8], H') ∧ St1 k xs bs H0 H' vN vA x7 x8 o7 o8 (rowC k xs bs 0)
 | 0, i, H, hi, h, hA, hl => by
  have : i = bs.length := by omega
  subst this
  have hh := h
  rw [List.take_length, List.replicate_zero, List.append_nil] at hh
  refine ⟨H, ?_, hh⟩
  obtain ⟨_, _, rfl⟩ := h.h7.len
  obtain ⟨_, _, rfl⟩ := h.h8.len
  exact lp_last (f32_L0_2 (by omega))
 | d + 1, i, H, hi, h, hA, hl => by
  obtain ⟨aA, cA, hAe⟩ := hA.len
  have hn5 := hG.n5
  have hil : i < bs.length := by omega
  obtain ⟨idA, LA, n1, n2⟩ := rd_at T23 hA (bll_get hil)
  have htk : (bs.take (i + 1)).map b2n = (bs.take i).map b2n ++ [b2n bs[i]] := by
   rw [List.take_add_one, List.getElem?_eq_getElem hil, List.map_append]; rfl
  have hb0 := h.b
  have hN0 := h.n.len
  cases hb : bs[i] with
  | true =>
   obtain ⟨_, H2, e3, s1, s2, s3, s4, s5⟩ := own_setS T66 h.h7 (i := i) (j := 0) hil (vs := [fu 1]) (by simp) rfl (prot := H0.length) (fun id hh => by cases hh; have := h.l7; omega)
   cases e3
   rw [show cu ((bs.take i).map b2n ++ List.replicate (d + 1) 0) = ((bs.take i).map b2n ++ List.replicate (d + 1) 0).map fu from rfl, put_map fu _ (by simp; omega)] at s3
   have hset : ((bs.take i).map b2n ++ List.replicate (d + 1) 0).set i 1 = (bs.take (i + 1)).map b2n ++ List.replicate d 0 := by
    rw [htk, hb, List.set_append_right _ _ (by simp; omega)]
    have : i - ((bs.take i).map b2n).length = 0 := by simp; omega
    rw [this, List.replicate_succ]
    simp [b2n]
   rw [hset] at s3
   have hcb : cb ((bs.take i).map b2n ++ List.replicate (d + 1) 0) = cb ((bs.take (i + 1)).map b2n ++ List.replicate d 0) := by
    rw [htk, hb, List.replicate_succ]
    unfold cb
    simp [fb, b2n]
   have h8 := h.h8
   rw [hcb] at h8
   have st' : St1 k xs bs H0 H2 vN vA x7 x8 o7 o8 ((bs.take (i + 1)).map b2n ++ List.replicate d 0) :=
    ⟨by rw [s4.2 _ (List.getElem?_eq_some_iff.1 h.b).1 (fun hh => by cases hh; have := h.l7; omega)]; exact h.b, h.n.stayLow h.lo s4 (fun id hh => by cases hh; have := h.l7; omega), h.lo, s3, h8.stay s4 (fun id h1 h2 => by cases h1; cases h2; exact h.d6 rfl), h.l7, h.l8, h.d6⟩
   obtain ⟨H5, q1, q2⟩ := loop32i hG (prot := prot) (m := m) d (i + 1) H2 (by omega) st' (hA.stayLow hl s4 (fun id hh => by cases hh; have := h.l7; omega)) hl
   rw [hb] at n2
   refine ⟨H5, ?_, q2⟩
   obtain ⟨_, _, rfl⟩ := h.h7.len
   obtain ⟨_, _, rfl⟩ := h.h8.len
   obtain ⟨_, _, hNe⟩ := hN0
   subst hNe; subst hAe
   obtain ⟨_, _, g2, _⟩ := fld3 hb0
   exact lp_next (f32_L0_0 (by omega) g2 n1 n2 rfl s1 rfl s2 (fit64 (by omega) (by omega))) q1
  | false =>
   have heq : (bs.take i).map b2n ++ List.replicate (d + 1) 0 = (bs.take (i + 1)).map b2n ++ List.replicate d 0 := by
    rw [htk, hb, List.replicate_succ]
    simp [b2n]
   have h' := h
   rw [heq] at h'
   obtain ⟨H5, q1, q2⟩ := loop32i hG (prot := prot) (m := m) d (i + 1) H (by omega) h' hA hl
   rw [hb] at n2
   refine ⟨H5, ?_, q2⟩
   obtain ⟨_, _, rfl⟩ := h.h7.len
   obtain ⟨_, _, rfl⟩ := h.h8.len
   obtain ⟨_, _, hNe⟩ := hN0
   subst hNe; subst hAe
   obtain ⟨_, _, g2, _⟩ := fld3 hb0
   exact lp_next (f32_L0_1 (by omega) g2 n1 n2 rfl (fit64 (by omega) (by omega))) q1
theorem c32 {k n : Int} {xs : List Int} {bs : List Bool} {vN vA : Value} (prot : Nat) (H : AHeap) (hA : IsA H xs bs vN vA) :
  callInf cfg 32 [av k vN vA, .int .i64 n] prot H = some (.tuple #[.int .u64 (countV k xs bs n).1, .int .i64 (countV k xs bs n).2], H) := by
 have lN := hA.n.low
 have lA := hA.a.low
 have hck := c41 (k := k) H.length (H ++ [bx k vN vA]) (hA.stay (Stay.app none H _))
 obtain ⟨aN, cN, rfl⟩ := hA.n.len
 obtain ⟨aA, cA, rfl⟩ := hA.a.len
 have hg : (H ++ [bx k (.slice aN xs.length cN) (.slice aA bs.length cA)])[H.length]? = some (bx k (.slice aN xs.length cN) (.slice aA bs.length cA)) := append_get.1
 obtain ⟨g0, g1, g2, g3⟩ := fld3 hg
 unfold countV
 by_cases h0 : chkG k xs bs = 0
 ·rw [if_pos h0]
  rw [h0] at hck
  by_cases hn0 : n < 0
  ·rw [if_pos hn0]; exact f32_F_1 all3 g3 hck rfl hn0
  ·rw [if_neg hn0]
   by_cases hn1 : n > 4096
   ·rw [if_pos hn1]; exact f32_F_2 all3 g3 hck rfl hn0 hn1
   ·rw [if_neg hn1]
    obtain ⟨k, rfl, hG⟩ := good_of h0
    obtain ⟨n, rfl⟩ : ∃ n' : Nat, n = n' := ⟨n.toNat, by omega⟩
    rw [Int.toNat_natCast, Int.toNat_natCast]
    have hb1 := hG.n1
    have hb5 := hG.n5
    obtain ⟨HX, hHX⟩ : ∃ HX, HX = H ++ [bx k (.slice aN xs.length cN) (.slice aA bs.length cA)] := ⟨_, rfl⟩
    have lX : HX.length = H.length + 1 := by rw [hHX]; simp
    obtain ⟨HA, hHA⟩ : ∃ HA, HA = HX ++ [AObj.cells (repCells [.int .u64 0] bs.length) 33 (repCells [.int .u64 0] bs.length).length .row] := ⟨_, rfl⟩
    obtain ⟨HB, hHB⟩ : ∃ HB, HB = HA ++ [AObj.cells (repCells [.bool false] bs.length) 4 (repCells [.bool false] bs.length).length .row] := ⟨_, rfl⟩
    have lHA : HA.length = H.length + 2 := by rw [hHA]; simp; omega
    have sX : Stay none H HX := by rw [hHX]; exact Stay.app none H _
    have sA : Stay none HX HA := by rw [hHA]; exact Stay.app none HX _
    have sB : Stay none HA HB := by rw [hHB]; exact Stay.app none HA _
    have m1 : Own HA 33 1 (.slice (some ⟨HX.length, 0, some (bs.length * 1)⟩) bs.length bs.length) (some HX.length) bs.length (cu (List.replicate bs.length 0)) := by
     rw [hHA]; exact own_make fu hb1 HX (.int .u64 0) rfl
    have m2 : Own HB 4 1 (.slice (some ⟨HA.length, 0, some (bs.length * 1)⟩) bs.length bs.length) (some HA.length) bs.length (cb (List.replicate bs.length 0)) := by
     rw [hHB]; exact own_make fb hb1 HA (.bool false) rfl
    have hgB : HB[H.length]? = some (bx k (.slice aN xs.length cN) (.slice aA bs.length cA)) := by
     rw [sB.2 _ (by omega) (by simp), sA.2 _ (by omega) (by simp), hHX]
     exact hg
    have hAB := hA.stay ((sX.trans sA).trans sB)
    have st : St1 k xs bs H HB (.slice aN xs.length cN) (.slice aA bs.length cA) (.slice (some ⟨HX.length, 0, some (bs.length * 1)⟩) bs.length bs.length) (.slice (some ⟨HA.length, 0, some (bs.length * 1)⟩) bs.length bs.length) HX.length HA.length ((bs.take 0).map b2n ++ List.replicate bs.length 0) :=
     ⟨hgB, hAB.n, lN, m1.stay sB (fun _ _ h => by cases h), m2, by omega, by omega, by omega⟩
    obtain ⟨H1, q1, q4⟩ := loop32i hG (prot := prot) (m := n) bs.length 0 HB (by omega) st hAB.a lA
    obtain ⟨y7, y8, o7, o8, H2, r1, r2⟩ := loop32r hG (prot := prot) (m := n) (by omega) ⟨_, _, _, rfl⟩ n 0 _ _ _ _ H1 (by omega) q4
    have hl := rowC_len k xs bs n
    have hcu : (cu (rowC k xs bs n))[0]? = some (fu ((rowC k xs bs n).getD 0 0)) := by simp [cu, List.getD_eq_getElem?_getD, List.getElem?_eq_getElem (show 0 < (rowC k xs bs n).length by omega)]
    have hcb : (cb (rowC k xs bs n))[0]? = some (fb ((rowC k xs bs n).getD 0 0)) := by simp [cb, List.getD_eq_getElem?_getD, List.getElem?_eq_getElem (show 0 < (rowC k xs bs n).length by omega)]
    obtain ⟨_, _, y1, y2⟩ := own_at T23 r2.h8 hcb
    obtain ⟨_, _, w1, w2⟩ := own_at T66 r2.h7 hcu
    obtain ⟨_, _, rfl⟩ := r2.h7.len
    obtain ⟨_, _, rfl⟩ := r2.h8.len
    subst hHB; subst hHA; subst hHX
    by_cases hov : 18446744073709551616 ≤ (rowC k xs bs n).getD 0 0
    ·rw [if_pos hov]
     have : fb ((rowC k xs bs n).getD 0 0) = .bool true := by unfold fb; rw [decide_eq_true hov]
     rw [this] at y2
     exact f32_F_3 all3 g3 hck rfl hn0 hn1 g2 (by omega) rfl (by omega) (by omega) (by omega) rfl (by omega) (by omega) q1 r1 y1 y2 rfl
    ·rw [if_neg hov]
     have : fb ((rowC k xs bs n).getD 0 0) = .bool false := by unfold fb; rw [decide_eq_false hov]
     rw [this] at y2
     have : fu ((rowC k xs bs n).getD 0 0) = .int .u64 ((rowC k xs bs n).getD 0 0 : Nat) := by unfold fu; rw [Nat.mod_eq_of_lt (by omega)]
     rw [this] at w2
     exact f32_F_4 all3 g3 hck rfl hn0 hn1 g2 (by omega) rfl (by omega) (by omega) (by omega) rfl (by omega) (by omega) q1 r1 y1 y2 rfl w1 w2
 ·rw [if_neg h0]
  exact f32_F_0 all3 g3 hck (by simpa using h0)
end Go.Proofs.Ythjkodbinkiifaa.Am23
