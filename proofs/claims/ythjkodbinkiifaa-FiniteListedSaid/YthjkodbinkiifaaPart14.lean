/- A part of the proof of a given statement: Sp23_Ord, P23_67, P23_59, Sp23_C67, P23_42, P23_19, P23_20, Sp23_C42, Sp23_C20, P23_7, P23_25, Law23_7, P23_26, P23_29, P23_50, Sp23_C29, P23_8, Law23_8. No condition. -/
import Derived.Test.YthjkodbinkiifaaPart13
import Derived.Lib.Bytealg
import Derived.Laws.Strings
namespace Go.Proofs.Ythjkodbinkiifaa.Am23
open Go Go.Proofs.Ythjkodbinkiifaa.Am

theorem less_cmp : ∀ l m : List UInt8, Op.bytesLess l m = true ↔ Lib.compareBytes l m < 0
  | [], [] => by simp [Op.bytesLess, Lib.compareBytes]
  | [], _ :: _ => by simp [Op.bytesLess, Lib.compareBytes]
  | _ :: _, [] => by simp [Op.bytesLess, Lib.compareBytes]
  | b :: l, d :: m => by
    have ih := less_cmp l m
    rw [Op.bytesLess, Lib.compareBytes, Bool.or_eq_true, Bool.and_eq_true, decide_eq_true_eq, beq_iff_eq]
    by_cases h1 : b < d
    · rw [if_pos h1]; simp [h1]
    · rw [if_neg h1]
      by_cases h2 : d < b
      · rw [if_pos h2]
        have : ¬ b = d := fun e => by subst e; exact absurd h2 h1
        simp [h1, this]
      · rw [if_neg h2]
        have e : b = d := by
          apply UInt8.toNat_inj.1
          have h5 : ¬ b.toNat < d.toNat := h1
          have h6 : ¬ d.toNat < b.toNat := h2
          omega
        subst e
        rw [← ih]
        simp [h1]
def ordV (u v : ByteArray) : Int := if u.size = v.size then Extern.BytealgCompare.cmp u v else if u.size < v.size then -1 else 1
theorem ord_slt (u v : ByteArray) : ordV u v < 0 ↔ slt u v = true := by
  unfold ordV slt
  by_cases h : u.size = v.size
  · rw [if_pos h, decide_eq_false (by omega), Bool.false_or, decide_eq_true h, Bool.true_and, Lib.cmp_eq, ByteArray.toList_eq, ByteArray.toList_eq, less_cmp]
  · rw [if_neg h, decide_eq_false h, Bool.false_and, Bool.or_false, decide_eq_true_eq]
    by_cases h2 : u.size < v.size
    · rw [if_pos h2]; simp [h2]
    · rw [if_neg h2]; simp [h2]
theorem c70 (u v : ByteArray) (prot : Nat) (H : AHeap) : callInf cfg 70 [.string u, .string v] prot H = some (.int .i64 (Extern.BytealgCompare.cmp u v), H) := f70_F_0 rfl
theorem c28 (u v : ByteArray) (prot : Nat) (H : AHeap) : callInf cfg 28 [.string u, .string v] prot H = some (.int .i64 (ordV u v), H) := by
  unfold ordV
  by_cases h : u.size = v.size
  · rw [if_pos h]
    exact f28_F_2 (by rw [h]; simp) (f52_F_0 (c70 u v _ _))
  · rw [if_neg h]
    have hne : ((u.size : Int) != (v.size : Int)) = true := by simpa using (fun e : (u.size : Int) = v.size => h (by omega))
    by_cases h2 : u.size < v.size
    · rw [if_pos h2]
      exact f28_F_0 hne (by omega)
    · rw [if_neg h2]
      exact f28_F_1 hne (by omega)
end Go.Proofs.Ythjkodbinkiifaa.Am23
set_option linter.unusedVariables false
open Go Go.Proofs.Ythjkodbinkiifaa.Am
namespace Go.Proofs.Ythjkodbinkiifaa.Am23
end Go.Proofs.Ythjkodbinkiifaa.Am23
set_option linter.unusedVariables false
open Go Go.Proofs.Ythjkodbinkiifaa.Am
namespace Go.Proofs.Ythjkodbinkiifaa.Am23
end Go.Proofs.Ythjkodbinkiifaa.Am23
namespace Go.Proofs.Ythjkodbinkiifaa.Am23
open Go Go.Proofs.Ythjkodbinkiifaa.Am

def wv (k : Nat) (xs : List Int) (n a : Nat) : Option Nat → ByteArray
  | none => ByteArray.empty
  | some t => wd0 k xs n a t

end Go.Proofs.Ythjkodbinkiifaa.Am23
set_option linter.unusedVariables false
open Go Go.Proofs.Ythjkodbinkiifaa.Am
namespace Go.Proofs.Ythjkodbinkiifaa.Am23
end Go.Proofs.Ythjkodbinkiifaa.Am23
set_option linter.unusedVariables false
open Go Go.Proofs.Ythjkodbinkiifaa.Am
namespace Go.Proofs.Ythjkodbinkiifaa.Am23
end Go.Proofs.Ythjkodbinkiifaa.Am23
set_option linter.unusedVariables false
open Go Go.Proofs.Ythjkodbinkiifaa.Am
namespace Go.Proofs.Ythjkodbinkiifaa.Am23
end Go.Proofs.Ythjkodbinkiifaa.Am23
namespace Go.Proofs.Ythjkodbinkiifaa.Am23
open Go Go.Proofs.Ythjkodbinkiifaa.Am

end Go.Proofs.Ythjkodbinkiifaa.Am23
namespace Go.Proofs.Ythjkodbinkiifaa.Am23
open Go Go.Proofs.Ythjkodbinkiifaa.Am

end Go.Proofs.Ythjkodbinkiifaa.Am23
set_option linter.unusedVariables false
open Go Go.Proofs.Ythjkodbinkiifaa.Am
namespace Go.Proofs.Ythjkodbinkiifaa.Am23
end Go.Proofs.Ythjkodbinkiifaa.Am23
set_option linter.unusedVariables false
open Go Go.Proofs.Ythjkodbinkiifaa.Am
namespace Go.Proofs.Ythjkodbinkiifaa.Am23
end Go.Proofs.Ythjkodbinkiifaa.Am23
namespace Go.Proofs.Ythjkodbinkiifaa.Am23
open Go Go.Proofs.Ythjkodbinkiifaa.Am

end Go.Proofs.Ythjkodbinkiifaa.Am23
set_option linter.unusedVariables false
open Go Go.Proofs.Ythjkodbinkiifaa.Am
namespace Go.Proofs.Ythjkodbinkiifaa.Am23
theorem f26_F_1 {x0 : Int} {x1 : ByteArray} {H : AHeap} {prot : Nat} {x8 : Int} {z4 : Value} {H1 : AHeap} (h1 : callInf cfg 50 [Value.int .i64 x0] (List.length H) H = some (Value.int .i64 x8, H)) (h2 : (x8 != 0) = false) (h3 : lpInf (lpOf cfg a26 0 prot H) ([Value.int .i64 x0, Value.string x1, Value.int .i64 0], H) = some (Ex.exit 0, [z4], H1)) : callInf cfg 26 [.int .i64 x0, .string x1] prot H = some (Value.int .i64 0, H) :=
  fn_of2 a26 [.v (.int .i64 x8), .e, .b false, .lo (.exit 0, [z4], H1)] (ai h1 (ai h2 (ai h3 (Eq.refl ((Value.int .i64 0, H) : Value × AHeap))))) (by kernel_rfl) rfl
theorem f26_F_2 {x0 : Int} {x1 : ByteArray} {H : AHeap} {prot : Nat} {x8 z4 : Int} {H1 : AHeap} (h1 : callInf cfg 50 [Value.int .i64 x0] (List.length H) H = some (Value.int .i64 x8, H)) (h2 : (x8 != 0) = false) (h3 : lpInf (lpOf cfg a26 0 prot H) ([Value.int .i64 x0, Value.string x1, Value.int .i64 0], H) = some (Ex.ret, [Value.int .i64 z4], H1)) : callInf cfg 26 [.int .i64 x0, .string x1] prot H = some (Value.int .i64 z4, H) :=
  fn_of2 a26 [.v (.int .i64 x8), .e, .b false, .lo (.ret, [.int .i64 z4], H1)] (ai h1 (ai h2 (ai h3 (Eq.refl ((Value.int .i64 z4, H) : Value × AHeap))))) (by kernel_rfl) rfl
theorem f26_L0_0 {x0 : Int} {x1 : ByteArray} {x6 : Int} {H0 : AHeap} {prot : Nat} {H : AHeap} (h1 : x6 < (↑x1.size : Int)) (h2 : 0 ≤ x6) (h3 : (↑(x1.get! x6.toNat).toNat : Int) < 97) : lpOf cfg a26 0 prot H0 ([.int .i64 x0, .string x1, .int .i64 x6], H) = some (Sum.inr (Ex.ret, [Value.int .i64 21], H)) :=
  lp_of2 [.e, .e, .b true, .e, .e, .b true, .b true, .b true, .b true, .b true, .b true, .b true, .b true, .b true] (ai (decide_eq_true h1) (ai h2 (ai h1 (ai (decide_eq_true h3) (ai (decide_eq_true h3) (ai (decide_eq_true h3) (ai (decide_eq_true h3) (ai (decide_eq_true h3) (ai (decide_eq_true h3) (ai (decide_eq_true h3) (ai (decide_eq_true h3) (ai (Eq.refl true) (Eq.refl (Sum.inr (Ex.ret, [Value.int .i64 21], H) : LS ⊕ LO)))))))))))))) (by kernel_rfl)
theorem f26_L0_1 {x0 : Int} {x1 : ByteArray} {x6 : Int} {H0 : AHeap} {prot : Nat} {H : AHeap} (h1 : x6 < (↑x1.size : Int)) (h2 : 0 ≤ x6) (h3 : ¬((↑(x1.get! x6.toNat).toNat : Int) < 97)) (h4 : Fit .i64 (IntKind.u8.wrap ((↑(x1.get! x6.toNat).toNat : Int) - 97))) (h5 : IntKind.u8.wrap ((↑(x1.get! x6.toNat).toNat : Int) - 97) ≥ x0) : lpOf cfg a26 0 prot H0 ([.int .i64 x0, .string x1, .int .i64 x6], H) = some (Sum.inr (Ex.ret, [Value.int .i64 21], H)) :=
  lp_of2 [.e, .e, .b true, .e, .e, .b false, .b false, .b false, .e, .b false, .e, .b false, .e, .b false, .b false, .e, .b false, .b true] (ai (decide_eq_true h1) (ai h2 (ai h1 (ai (decide_eq_false h3) (ai (decide_eq_false h3) (ai (decide_eq_false h3) (ai h2 (ai h1 (ai (decide_eq_false h3) (ai (decide_eq_false h3) (ai h4 (ai (decide_eq_false h3) (ai (decide_eq_false h3) (ai (decide_eq_false h3) (ai (decide_eq_true h5) (Eq.refl (Sum.inr (Ex.ret, [Value.int .i64 21], H) : LS ⊕ LO))))))))))))))))) (by kernel_rfl)
theorem f26_L0_2 {x0 : Int} {x1 : ByteArray} {x6 : Int} {H0 : AHeap} {prot : Nat} {H : AHeap} (h1 : x6 < (↑x1.size : Int)) (h2 : 0 ≤ x6) (h3 : ¬((↑(x1.get! x6.toNat).toNat : Int) < 97)) (h4 : Fit .i64 (IntKind.u8.wrap ((↑(x1.get! x6.toNat).toNat : Int) - 97))) (h5 : ¬(IntKind.u8.wrap ((↑(x1.get! x6.toNat).toNat : Int) - 97) ≥ x0)) (h6 : Fit .i64 (x6 + 1)) : lpOf cfg a26 0 prot H0 ([.int .i64 x0, .string x1, .int .i64 x6], H) = some (Sum.inl ([Value.int .i64 x0, Value.string x1, Value.int .i64 (x6 + 1)], H)) :=
  lp_of2 [.e, .e, .b true, .e, .e, .b false, .b false, .b false, .e, .b false, .e, .b false, .e, .b false, .b false, .e, .b false, .b false, .e] (ai (decide_eq_true h1) (ai h2 (ai h1 (ai (decide_eq_false h3) (ai (decide_eq_false h3) (ai (decide_eq_false h3) (ai h2 (ai h1 (ai (decide_eq_false h3) (ai (decide_eq_false h3) (ai h4 (ai (decide_eq_false h3) (ai (decide_eq_false h3) (ai (decide_eq_false h3) (ai (decide_eq_false h5) (ai h6 (Eq.refl (Sum.inl ([Value.int .i64 x0, Value.string x1, Value.int .i64 (x6 + 1)], H) : LS ⊕ LO)))))))))))))))))) (by kernel_rfl)
theorem f26_L0_3 {x0 : Int} {x1 : ByteArray} {x6 : Int} {H0 : AHeap} {prot : Nat} {H : AHeap} (h1 : ¬(x6 < (↑x1.size : Int))) : lpOf cfg a26 0 prot H0 ([.int .i64 x0, .string x1, .int .i64 x6], H) = some (Sum.inr (Ex.exit 0, [Value.tuple { toList := [] }], H)) :=
  lp_of2 [.e, .e, .b false] (ai (decide_eq_false h1) (Eq.refl (Sum.inr (Ex.exit 0, [Value.tuple { toList := [] }], H) : LS ⊕ LO))) (by kernel_rfl)
end Go.Proofs.Ythjkodbinkiifaa.Am23
set_option linter.unusedVariables false
open Go Go.Proofs.Ythjkodbinkiifaa.Am
namespace Go.Proofs.Ythjkodbinkiifaa.Am23
theorem f29_F_0 {x0a : Int} {x0ba : Option Addr} {x0bn x0bc : Nat} {x0ca : Option Addr} {x0cn x0cc : Nat} {x1a : Option Addr} {x1n x1c : Nat} {x2 : ByteArray} {x3 : Int} {H : AHeap} {prot : Nat} (h1 : [Value.int .i64 x0a, Value.slice x0ba x0bn x0bc, Value.slice x0ca x0cn x0cc].all isCell = true) (h2 : (!x2.toList == []) = true) : callInf cfg 29 [.agg #[.int .i64 x0a, .slice x0ba x0bn x0bc, .slice x0ca x0cn x0cc], .slice x1a x1n x1c, .string x2, .int .i64 x3] prot H = some (Value.bool true, H) :=
  fn_of2 a29 [.e, .e, .b true, .b true, .b true, .b true, .b true] (ai h1 (ai h2 (ai h2 (ai h2 (ai h2 (ai (Eq.refl true) (Eq.refl ((Value.bool true, H) : Value × AHeap)))))))) (by kernel_rfl) rfl
theorem f29_F_1 {x0a : Int} {x0ba : Option Addr} {x0bn x0bc : Nat} {x0ca : Option Addr} {x0cn x0cc : Nat} {x1a : Option Addr} {x1n x1c : Nat} {x2 : ByteArray} {x3 : Int} {H : AHeap} {prot : Nat} (h1 : [Value.int .i64 x0a, Value.slice x0ba x0bn x0bc, Value.slice x0ca x0cn x0cc].all isCell = true) (h2 : (!x2.toList == []) = false) (h3 : ((↑x1n : Int) == 0) = true) : callInf cfg 29 [.agg #[.int .i64 x0a, .slice x0ba x0bn x0bc, .slice x0ca x0cn x0cc], .slice x1a x1n x1c, .string x2, .int .i64 x3] prot H = some (Value.bool true, H) :=
  fn_of2 a29 [.e, .e, .b false, .b false, .e, .b false, .e, .b false, .b true] (ai h1 (ai h2 (ai h2 (ai h2 (ai h2 (ai h3 (Eq.refl ((Value.bool true, H) : Value × AHeap)))))))) (by kernel_rfl) rfl
theorem f29_F_2 {x0a : Int} {x0ba : Option Addr} {x0bn x0bc : Nat} {x0ca : Option Addr} {x0cn x0cc : Nat} {x1a : Option Addr} {x1n x1c : Nat} {x2 : ByteArray} {x3 : Int} {H : AHeap} {prot : Nat} {z8 : Value} {H1 : AHeap} (h1 : [Value.int .i64 x0a, Value.slice x0ba x0bn x0bc, Value.slice x0ca x0cn x0cc].all isCell = true) (h2 : (!x2.toList == []) = false) (h3 : ((↑x1n : Int) == 0) = false) (h4 : lpInf (lpOf cfg a29 0 prot H) ([Value.slice x1a x1n x1c, Value.pointer (some ⟨List.length H, 0, some [Value.int .i64 x0a, Value.slice x0ba x0bn x0bc, Value.slice x0ca x0cn x0cc].length⟩), Value.int .i64 0], H ++ [vo [Value.int .i64 x0a, Value.slice x0ba x0bn x0bc, Value.slice x0ca x0cn x0cc] 25]) = some (Ex.exit 0, [z8], H1)) : callInf cfg 29 [.agg #[.int .i64 x0a, .slice x0ba x0bn x0bc, .slice x0ca x0cn x0cc], .slice x1a x1n x1c, .string x2, .int .i64 x3] prot H = some (Value.bool true, H) :=
  fn_of2 a29 [.e, .e, .b false, .b false, .e, .b false, .e, .b false, .b false, .lo (.exit 0, [z8], H1)] (ai h1 (ai h2 (ai h2 (ai h2 (ai h2 (ai h3 (ai h4 (Eq.refl ((Value.bool true, H) : Value × AHeap))))))))) (by kernel_rfl) rfl
theorem f29_L0_2 {x1a : Option Addr} {x1n x1c x4p x4o x4l : Nat} {x9 : Int} {H0 : AHeap} {prot : Nat} {H : AHeap} {x26p x26o x26l : Nat} {x27 : ByteArray} {x33a : Int} {x33ba : Option Addr} {x33bn x33bc : Nat} {x33ca : Option Addr} {x33cn x33cc : Nat} {x35a x35b : Int} {z1a : Option Addr} {z1n z1c z4p z4o z4l : Nat} {z9 z10 z11 z12 : Int} {H2 : AHeap} {x54 : Int} (h1 : Fit .i64 ((↑x1n : Int) - 1)) (h2 : aindexAddr cfg.P 43 (Value.slice x1a x1n x1c) (Value.int .i64 ((↑x1n : Int) - 1)) = some (Value.pointer (some ⟨x26p, x26o, some x26l⟩))) (h3 : getCells H x26p x26l x26o 1 = some [Value.string x27]) (h4 : x9 < (↑x27.size : Int)) (h5 : getCells H x4p x4l x4o 3 = some [Value.int .i64 x33a, Value.slice x33ba x33bn x33bc, Value.slice x33ca x33cn x33cc]) (h6 : callInf cfg 14 [Value.agg { toList := [Value.int .i64 x33a, Value.slice x33ba x33bn x33bc, Value.slice x33ca x33cn x33cc] }, Value.int .i64 x9] (List.length H0) H = some (Value.tuple { toList := [Value.int .u64 x35a, Value.int .i64 x35b] }, H)) (h7 : lpInf (lpOf cfg a29 1 prot H0) ([Value.slice x1a x1n x1c, Value.pointer (some ⟨x4p, x4o, some x4l⟩), Value.int .i64 x9, Value.int .u64 x35a, Value.int .i64 x35b, Value.int .u64 0, Value.int .i64 0], H) = some (Ex.exit 2, [Value.slice z1a z1n z1c, Value.pointer (some ⟨z4p, z4o, some z4l⟩), Value.int .i64 z9, Value.int .u64 z10, Value.int .i64 z11, Value.int .u64 z12], H2)) (h8 : callInf cfg 15 [Value.int .i64 z11] (List.length H0) H2 = some (Value.int .i64 x54, H2)) (h9 : (x54 != 0) = false) (h10 : (z10 != z12) = false) (h11 : Fit .i64 (z9 + 1)) : lpOf cfg a29 0 prot H0 ([.slice x1a x1n x1c, .pointer (some ⟨x4p, x4o, some x4l⟩), .int .i64 x9], H) = some (Sum.inl ([Value.slice z1a z1n z1c, Value.pointer (some ⟨z4p, z4o, some z4l⟩), Value.int .i64 (z9 + 1)], H2)) :=
  lp_of2 [.e, .e, .v (.pointer (some ⟨x26p, x26o, some x26l⟩)), .v (.string x27), .e, .e, .b true, .v (.agg #[.int .i64 x33a, .slice x33ba x33bn x33bc, .slice x33ca x33cn x33cc]), .v (.tuple #[.int .u64 x35a, .int .i64 x35b]), .lo (.exit 2, [.slice z1a z1n z1c, .pointer (some ⟨z4p, z4o, some z4l⟩), .int .i64 z9, .int .u64 z10, .int .i64 z11, .int .u64 z12], H2), .v (.int .i64 x54), .e, .b false, .b false, .b false, .e, .b false, .b false, .e] (ai h1 (ai h2 (ai h3 (ai (decide_eq_true h4) (ai h5 (ai h6 (ai h7 (ai h8 (ai h9 (ai h9 (ai h9 (ai h9 (ai h10 (ai h11 (Eq.refl (Sum.inl ([Value.slice z1a z1n z1c, Value.pointer (some ⟨z4p, z4o, some z4l⟩), Value.int .i64 (z9 + 1)], H2) : LS ⊕ LO)))))))))))))))) (by kernel_rfl)
theorem f29_L0_3 {x1a : Option Addr} {x1n x1c x4p x4o x4l : Nat} {x9 : Int} {H0 : AHeap} {prot : Nat} {H : AHeap} {x26p x26o x26l : Nat} {x27 : ByteArray} (h1 : Fit .i64 ((↑x1n : Int) - 1)) (h2 : aindexAddr cfg.P 43 (Value.slice x1a x1n x1c) (Value.int .i64 ((↑x1n : Int) - 1)) = some (Value.pointer (some ⟨x26p, x26o, some x26l⟩))) (h3 : getCells H x26p x26l x26o 1 = some [Value.string x27]) (h4 : ¬(x9 < (↑x27.size : Int))) : lpOf cfg a29 0 prot H0 ([.slice x1a x1n x1c, .pointer (some ⟨x4p, x4o, some x4l⟩), .int .i64 x9], H) = some (Sum.inr (Ex.exit 0, [Value.tuple { toList := [] }], H)) :=
  lp_of2 [.e, .e, .v (.pointer (some ⟨x26p, x26o, some x26l⟩)), .v (.string x27), .e, .e, .b false] (ai h1 (ai h2 (ai h3 (ai (decide_eq_false h4) (Eq.refl (Sum.inr (Ex.exit 0, [Value.tuple { toList := [] }], H) : LS ⊕ LO)))))) (by kernel_rfl)
theorem f29_L1_0 {x1a : Option Addr} {x1n x1c x4p x4o x4l : Nat} {x9 x10 x11 x12 x13 : Int} {H0 : AHeap} {prot : Nat} {H : AHeap} {x46p x46o x46l : Nat} {x47 : ByteArray} (h1 : x13 < (↑x1n : Int)) (h2 : aindexAddr cfg.P 43 (Value.slice x1a x1n x1c) (Value.int .i64 x13) = some (Value.pointer (some ⟨x46p, x46o, some x46l⟩))) (h3 : getCells H x46p x46l x46o 1 = some [Value.string x47]) (h4 : ((↑x47.size : Int) == x9) = true) (h5 : Fit .i64 (x13 + 1)) : lpOf cfg a29 1 prot H0 ([.slice x1a x1n x1c, .pointer (some ⟨x4p, x4o, some x4l⟩), .int .i64 x9, .int .u64 x10, .int .i64 x11, .int .u64 x12, .int .i64 x13], H) = some (Sum.inl ([Value.slice x1a x1n x1c, Value.pointer (some ⟨x4p, x4o, some x4l⟩), Value.int .i64 x9, Value.int .u64 x10, Value.int .i64 x11, Value.int .u64 (IntKind.u64.wrap (x12 + 1)), Value.int .i64 (x13 + 1)], H)) :=
  lp_of2 [.e, .e, .b true, .v (.pointer (some ⟨x46p, x46o, some x46l⟩)), .v (.string x47), .e, .e, .b true, .e, .e] (ai (decide_eq_true h1) (ai h2 (ai h3 (ai h4 (ai h5 (Eq.refl (Sum.inl ([Value.slice x1a x1n x1c, Value.pointer (some ⟨x4p, x4o, some x4l⟩), Value.int .i64 x9, Value.int .u64 x10, Value.int .i64 x11, Value.int .u64 (IntKind.u64.wrap (x12 + 1)), Value.int .i64 (x13 + 1)], H) : LS ⊕ LO))))))) (by kernel_rfl)
theorem f29_L1_1 {x1a : Option Addr} {x1n x1c x4p x4o x4l : Nat} {x9 x10 x11 x12 x13 : Int} {H0 : AHeap} {prot : Nat} {H : AHeap} {x46p x46o x46l : Nat} {x47 : ByteArray} (h1 : x13 < (↑x1n : Int)) (h2 : aindexAddr cfg.P 43 (Value.slice x1a x1n x1c) (Value.int .i64 x13) = some (Value.pointer (some ⟨x46p, x46o, some x46l⟩))) (h3 : getCells H x46p x46l x46o 1 = some [Value.string x47]) (h4 : ((↑x47.size : Int) == x9) = false) (h5 : Fit .i64 (x13 + 1)) : lpOf cfg a29 1 prot H0 ([.slice x1a x1n x1c, .pointer (some ⟨x4p, x4o, some x4l⟩), .int .i64 x9, .int .u64 x10, .int .i64 x11, .int .u64 x12, .int .i64 x13], H) = some (Sum.inl ([Value.slice x1a x1n x1c, Value.pointer (some ⟨x4p, x4o, some x4l⟩), Value.int .i64 x9, Value.int .u64 x10, Value.int .i64 x11, Value.int .u64 x12, Value.int .i64 (x13 + 1)], H)) :=
  lp_of2 [.e, .e, .b true, .v (.pointer (some ⟨x46p, x46o, some x46l⟩)), .v (.string x47), .e, .e, .b false, .e] (ai (decide_eq_true h1) (ai h2 (ai h3 (ai h4 (ai h5 (Eq.refl (Sum.inl ([Value.slice x1a x1n x1c, Value.pointer (some ⟨x4p, x4o, some x4l⟩), Value.int .i64 x9, Value.int .u64 x10, Value.int .i64 x11, Value.int .u64 x12, Value.int .i64 (x13 + 1)], H) : LS ⊕ LO))))))) (by kernel_rfl)
theorem f29_L1_2 {x1a : Option Addr} {x1n x1c x4p x4o x4l : Nat} {x9 x10 x11 x12 x13 : Int} {H0 : AHeap} {prot : Nat} {H : AHeap} (h1 : ¬(x13 < (↑x1n : Int))) : lpOf cfg a29 1 prot H0 ([.slice x1a x1n x1c, .pointer (some ⟨x4p, x4o, some x4l⟩), .int .i64 x9, .int .u64 x10, .int .i64 x11, .int .u64 x12, .int .i64 x13], H) = some (Sum.inr (Ex.exit 2, [Value.slice x1a x1n x1c, Value.pointer (some ⟨x4p, x4o, some x4l⟩), Value.int .i64 x9, Value.int .u64 x10, Value.int .i64 x11, Value.int .u64 x12], H)) :=
  lp_of2 [.e, .e, .b false] (ai (decide_eq_false h1) (Eq.refl (Sum.inr (Ex.exit 2, [Value.slice x1a x1n x1c, Value.pointer (some ⟨x4p, x4o, some x4l⟩), Value.int .i64 x9, Value.int .u64 x10, Value.int .i64 x11, Value.int .u64 x12], H) : LS ⊕ LO))) (by kernel_rfl)
end Go.Proofs.Ythjkodbinkiifaa.Am23
set_option linter.unusedVariables false
open Go Go.Proofs.Ythjkodbinkiifaa.Am
namespace Go.Proofs.Ythjkodbinkiifaa.Am23
theorem f50_F_2 {x0 : Int} {H : AHeap} {prot : Nat} (h1 : ¬(x0 < 1)) (h2 : ¬(x0 > 8)) : callInf cfg 50 [.int .i64 x0] prot H = some (Value.int .i64 0, H) :=
  fn_of2 a50 [.e, .b false, .b false, .e, .b false, .b false] (ai (decide_eq_false h1) (ai (decide_eq_false h1) (ai (decide_eq_false h1) (ai (decide_eq_false h2) (Eq.refl ((Value.int .i64 0, H) : Value × AHeap)))))) (by kernel_rfl) rfl
end Go.Proofs.Ythjkodbinkiifaa.Am23
namespace Go.Proofs.Ythjkodbinkiifaa.Am23
open Go Go.Proofs.Ythjkodbinkiifaa.Am

theorem cmp_anti : ∀ l m : List UInt8, 0 < Lib.compareBytes l m ↔ Lib.compareBytes m l < 0
  | [], [] => by simp [Lib.compareBytes]
  | [], _ :: _ => by simp [Lib.compareBytes]
  | _ :: _, [] => by simp [Lib.compareBytes]
  | b :: l, d :: m => by
    have ih := cmp_anti l m
    rw [Lib.compareBytes, Lib.compareBytes]
    by_cases h1 : b < d
    · have h2 : ¬ d < b := fun h => by
        have h5 : b.toNat < d.toNat := h1
        have h6 : d.toNat < b.toNat := h
        omega
      rw [if_pos h1, if_neg h2, if_pos h1]; decide
    · rw [if_neg h1]
      by_cases h2 : d < b
      · rw [if_pos h2, if_pos h2]; decide
      · rw [if_neg h2, if_neg h2, if_neg h1]; exact ih
theorem ord_pos (u v : ByteArray) : 0 < ordV u v ↔ slt v u = true := by
  rw [← ord_slt]
  unfold ordV
  by_cases h : u.size = v.size
  · rw [if_pos h, if_pos h.symm, Lib.cmp_eq, Lib.cmp_eq]
    exact cmp_anti _ _
  · have h' : ¬ v.size = u.size := fun e => h e.symm
    rw [if_neg h, if_neg h']
    by_cases h2 : u.size < v.size
    · rw [if_pos h2, if_neg (by omega)]; decide
    · rw [if_neg h2, if_pos (by omega)]; decide
theorem less_lw : ∀ u v : List Nat, (∀ c ∈ u, c < 100) → (∀ c ∈ v, c < 100) → u.length = v.length → Op.bytesLess (lw u).data.toList (lw v).data.toList = lexLt u v := by
  have key : ∀ u v : List Nat, (∀ c ∈ u, c < 100) → (∀ c ∈ v, c < 100) → u.length = v.length → Op.bytesLess (u.map fun c => UInt8.ofNat (97 + c)) (v.map fun c => UInt8.ofNat (97 + c)) = lexLt u v := by
    intro u
    induction u with
    | nil =>
      intro v _ _ h
      cases v with
      | nil => rfl
      | cons a v => simp at h
    | cons a u ih =>
      intro v hu hv h
      cases v with
      | nil => simp at h
      | cons b v =>
        have h1 := hu a (by simp)
        have h2 := hv b (by simp)
        rw [List.map_cons, List.map_cons, Op.bytesLess, lexLt, ih v (fun c hc => hu c (by simp [hc])) (fun c hc => hv c (by simp [hc])) (by simpa using h)]
        have ea : (UInt8.ofNat (97 + a)).toNat = 97 + a := by rw [UInt8.toNat_ofNat']; omega
        have eb : (UInt8.ofNat (97 + b)).toNat = 97 + b := by rw [UInt8.toNat_ofNat']; omega
        have e1 : decide (UInt8.ofNat (97 + a) < UInt8.ofNat (97 + b)) = decide (a < b) := by
          rw [decide_eq_decide, UInt8.lt_iff_toNat_lt, ea, eb]; omega
        have e2 : (UInt8.ofNat (97 + a) == UInt8.ofNat (97 + b)) = decide (a = b) := by
          by_cases hab : a = b
          · subst hab; simp
          · rw [decide_eq_false hab, beq_eq_false_iff_ne]
            intro e
            have := congrArg UInt8.toNat e
            rw [ea, eb] at this
            omega
        rw [e1, e2]
  intro u v hu hv h
  have e : ∀ w : List Nat, (lw w).data.toList = w.map fun c => UInt8.ofNat (97 + c) := fun w => by simp [lw, bstr]
  rw [e, e]
  exact key u v hu hv h
theorem slt_lw {u v : List Nat} (hu : ∀ c ∈ u, c < 100) (hv : ∀ c ∈ v, c < 100) : slt (lw u) (lw v) = slx u v := by
  unfold slt slx
  rw [lw_size, lw_size, ByteArray.toList_eq, ByteArray.toList_eq]
  by_cases h : u.length = v.length
  · rw [less_lw u v hu hv h]
  · simp [h]
theorem lw_inj {u v : List Nat} (hu : ∀ c ∈ u, c < 100) (hv : ∀ c ∈ v, c < 100) (h : (lw u).toList = (lw v).toList) : u = v := by
  rw [ByteArray.toList_eq, ByteArray.toList_eq] at h
  have e : ∀ w : List Nat, (lw w).data.toList = w.map fun c => UInt8.ofNat (97 + c) := fun w => by simp [lw, bstr]
  rw [e, e] at h
  have hl : u.length = v.length := by simpa using congrArg List.length h
  apply List.ext_getElem hl
  intro i h1 h2
  have h3 := congrArg (fun l => l[i]?) h
  simp only [List.getElem?_map, List.getElem?_eq_getElem h1, List.getElem?_eq_getElem h2, Option.map_some, Option.some.injEq] at h3
  have h4 := congrArg UInt8.toNat h3
  rw [UInt8.toNat_ofNat', UInt8.toNat_ofNat'] at h4
  have := hu _ (List.getElem_mem h1)
  have := hv _ (List.getElem_mem h2)
  omega

/-- The document's look at a word. -/
theorem loop26 {k : Nat} (hk8 : k ≤ 8) {w : ByteArray} (hw : w.size < 140737488355328) {H0 H : AHeap} {prot : Nat} : ∀ (d i : Nat), i + d = w.size →
    lpInf (lpOf cfg a26 0 prot H0) ([.int .i64 k, .string w, .int .i64 i], H) = some (if okFrom k w d i then (.exit 0, [.tuple #[]], H) else (.ret, [.int .i64 21], H))
  | 0, i, hi => by rw [okFrom, if_pos rfl]; exact lp_last (f26_L0_3 (by omega))
  | d + 1, i, hi => by
    have hb256 : (w.get! i).toNat < 256 := (w.get! i).toNat_lt
    rw [okFrom]
    by_cases h1 : (w.get! i).toNat < 97
    · rw [decide_eq_false (by omega), Bool.false_and, if_neg (by simp)]
      exact lp_last (f26_L0_0 (by omega) (by omega) (by rw [Int.toNat_natCast]; omega))
    · have hsub := u8_sub (b := (w.get! i).toNat) (by omega) hb256
      have hsub' : IntKind.u8.wrap ((((w.get! ((i : Nat) : Int).toNat).toNat : Nat) : Int) - 97) = (((w.get! i).toNat - 97 : Nat) : Int) := by rw [Int.toNat_natCast]; exact hsub
      have f1 : Fit .i64 (IntKind.u8.wrap ((((w.get! ((i : Nat) : Int).toNat).toNat : Nat) : Int) - 97)) := by rw [hsub']; exact fit64 (by omega) (by omega)
      by_cases h2 : (w.get! i).toNat < 97 + k
      · rw [decide_eq_true (by omega), Bool.true_and]
        exact lp_next (f26_L0_2 (by omega) (by omega) (by rw [Int.toNat_natCast]; omega) f1 (by rw [hsub']; omega) (fit64 (by omega) (by omega))) (loop26 hk8 hw d (i + 1) (by omega))
      · rw [decide_eq_false (by omega), Bool.false_and, if_neg (by simp)]
        exact lp_last (f26_L0_1 (by omega) (by omega) (by rw [Int.toNat_natCast]; omega) f1 (by rw [hsub']; omega))
theorem c26 {k : Nat} (hk1 : 1 ≤ k) (hk8 : k ≤ 8) {w : ByteArray} (hw : w.size < 140737488355328) (prot : Nat) (H : AHeap) : callInf cfg 26 [.int .i64 k, .string w] prot H = some (.int .i64 (if okW k w then 0 else 21), H) := by
  have h50 := f50_F_2 (x0 := (k : Int)) (H := H) (prot := H.length) (by omega) (by omega)
  have h := loop26 hk8 hw (H0 := H) (H := H) (prot := prot) w.size 0 (by omega)
  rw [show okFrom k w w.size 0 = okW k w from rfl] at h
  cases hok : okW k w with
  | true => rw [hok, if_pos rfl] at h; exact f26_F_1 h50 rfl h
  | false => rw [hok, if_neg (by simp)] at h; exact f26_F_2 h50 rfl h

theorem loop29i {W : List (List Nat)} (hW : W.length ≤ 1000) {n : Nat} {x : Value} {x10 x11 : Int} {p : Nat} {H0 H : AHeap} {prot : Nat} (hx : Rd H 9 1 x W.length (sl W)) : ∀ (d i c : Nat), i + d = W.length → c ≤ i →
    lpInf (lpOf cfg a29 1 prot H0) ([x, .pointer (some ⟨p, 0, some 3⟩), .int .i64 n, .int .u64 x10, .int .i64 x11, .int .u64 c, .int .i64 i], H) =
      some (.exit 2, [x, .pointer (some ⟨p, 0, some 3⟩), .int .i64 n, .int .u64 x10, .int .i64 x11, .int .u64 ((c + (W.drop i).countP (fun w => decide (w.length = n)) : Nat) : Int)], H)
  | 0, i, c, hi, hc => by
    rw [List.drop_of_length_le (by omega)]
    obtain ⟨_, _, rfl⟩ := hx.len
    exact lp_last (f29_L1_2 (by omega))
  | d + 1, i, c, hi, hc => by
    obtain ⟨id, L, p1, p2⟩ := rd_at T43 hx (sl_at (show i < W.length by omega))
    have hg : W.getD i [] = W[i] := by rw [List.getD_eq_getElem?_getD, List.getElem?_eq_getElem (by omega)]; rfl
    rw [List.drop_eq_getElem_cons (by omega), List.countP_cons]
    rw [hg] at p2
    by_cases h : W[i].length = n
    · have ih := loop29i hW (n := n) (x10 := x10) (x11 := x11) (p := p) (H0 := H0) (prot := prot) hx d (i + 1) (c + 1) (by omega) (by omega)
      rw [if_pos (by simpa using h)]
      have e1 : c + 1 + (W.drop (i + 1)).countP (fun w => decide (w.length = n)) = c + ((W.drop (i + 1)).countP (fun w => decide (w.length = n)) + 1) := by omega
      rw [e1] at ih
      have ew : IntKind.u64.wrap ((c : Int) + 1) = ((c + 1 : Nat) : Int) := by
        rw [show (c : Int) + 1 = ((c + 1 : Nat) : Int) by omega]
        exact u64_small (by omega)
      rw [← ew] at ih
      obtain ⟨_, _, rfl⟩ := hx.len
      exact lp_next (f29_L1_0 (by omega) p1 p2 (by rw [lw_size, beq_iff_eq]; omega) (fit64 (by omega) (by omega))) ih
    · have ih := loop29i hW (n := n) (x10 := x10) (x11 := x11) (p := p) (H0 := H0) (prot := prot) hx d (i + 1) c (by omega) (by omega)
      rw [if_neg (by simpa using h), Nat.add_zero]
      obtain ⟨_, _, rfl⟩ := hx.len
      exact lp_next (f29_L1_1 (by omega) p1 p2 (by rw [lw_size, beq_eq_false_iff_ne]; omega) (fit64 (by omega) (by omega))) ih
theorem loop29o {k : Nat} {xs : List Int} {bs : List Bool} (hG : Good k xs bs) (h0 : chkG k xs bs = 0) {W : List (List Nat)} (hW : W.length ≤ 1000) {m : Nat} (hm : W.length = m + 1) {z : List Nat} (hz : W[m]? = some z) (hz4 : z.length ≤ 4096)
    (hc : ∀ n, n < z.length → W.countP (fun w => decide (w.length = n)) = (rowC k xs bs n).getD 0 0) {x vN vA : Value} {H0 H : AHeap} {prot : Nat} (hb : H[H0.length]? = some (bx k vN vA)) (hA : IsA H xs bs vN vA) (hx : Rd H 9 1 x W.length (sl W)) : ∀ (d n : Nat), n + d = z.length →
    lpInf (lpOf cfg a29 0 prot H0) ([x, .pointer (some ⟨H0.length, 0, some 3⟩), .int .i64 n], H) = some (.exit 0, [.tuple #[]], H)
  | 0, n, hn => by
    have hzv : (sl W)[m]? = some (.string (lw z)) := by unfold sl; rw [List.getElem?_map, hz]; rfl
    rw [hm] at hx
    obtain ⟨id, L, p1, p2⟩ := rd_last T43 hx hzv
    obtain ⟨_, _, rfl⟩ := hx.len
    exact lp_last (f29_L0_3 (fit64 (by omega) (by omega)) p1 p2 (by rw [lw_size]; omega))
  | d + 1, n, hn => by
    have ih := loop29o hG h0 hW hm hz hz4 hc (prot := prot) hb hA hx d (n + 1) (by omega)
    have hzv : (sl W)[m]? = some (.string (lw z)) := by unfold sl; rw [List.getElem?_map, hz]; rfl
    have h14 := c14 (k := (k : Int)) (n := (n : Int)) H0.length H hA
    have hle : (rowC k xs bs n).getD 0 0 ≤ 1000 := by rw [← hc n (by omega)]; exact Nat.le_trans List.countP_le_length hW
    have hV : countV (k : Int) xs bs (n : Int) = ((rowC k xs bs n).getD 0 0, 0) := by
      unfold countV
      rw [if_pos h0, if_neg (by omega), if_neg (by omega), Int.toNat_natCast, Int.toNat_natCast, if_neg (by omega)]
    rw [hV] at h14
    have hi := loop29i hW (n := n) (x10 := (((rowC k xs bs n).getD 0 0 : Nat) : Int)) (x11 := 0) (p := H0.length) (H0 := H0) (prot := prot) hx W.length 0 0 (by omega) (Nat.le_refl _)
    rw [List.drop_zero, Nat.zero_add, hc n (by omega)] at hi
    obtain ⟨_, _, _, g3⟩ := fld3 hb
    obtain ⟨aN, cN, rfl⟩ := hA.n.len
    obtain ⟨aA, cA, rfl⟩ := hA.a.len
    have hx' := hx
    rw [hm] at hx'
    obtain ⟨id, L, p1, p2⟩ := rd_last T43 hx' hzv
    obtain ⟨ax, cx, rfl⟩ := hx.len
    rw [← hm] at p1
    exact lp_next (f29_L0_2 (fit64 (by omega) (by omega)) p1 p2 (by rw [lw_size]; omega) g3 h14 hi f15_F_0 rfl (by simp) (fit64 (by omega) (by omega))) ih
theorem c29 {k : Nat} {xs : List Int} {bs : List Bool} (hG : Good k xs bs) (h0 : chkG k xs bs = 0) (low : List Nat) {W : List (List Nat)} (hW : W.length ≤ 1000) (h4 : ∀ w ∈ W, w.length ≤ 4096) (most : Int)
    (hc : low = [] → ∀ n, 0 < W.length → n < (W.getD (W.length - 1) []).length → W.countP (fun w => decide (w.length = n)) = (rowC k xs bs n).getD 0 0) {x vN vA : Value} (prot : Nat) (H : AHeap) (hA : IsA H xs bs vN vA) (hx : Rd H 9 1 x W.length (sl W)) :
    callInf cfg 29 [av k vN vA, x, .string (lw low), .int .i64 most] prot H = some (.bool true, H) := by
  have hnl := lw_nil low
  obtain ⟨aN, cN, hvN⟩ := hA.n.len
  obtain ⟨aA, cA, hvA⟩ := hA.a.len
  obtain ⟨ax, cx, hvx⟩ := hx.len
  by_cases h1 : low = []
  · have e1 : (!(lw low).toList == []) = false := by rw [hnl, h1]; rfl
    by_cases h2 : W.length = 0
    · subst hvN hvA hvx
      exact f29_F_1 all3 e1 (by rw [beq_iff_eq]; omega)
    · obtain ⟨m, hm⟩ : ∃ m, W.length = m + 1 := ⟨W.length - 1, by omega⟩
      have hz : W[m]? = some W[m] := List.getElem?_eq_getElem (by omega)
      have hgz : W.getD (W.length - 1) [] = W[m] := by rw [show W.length - 1 = m by omega, List.getD_eq_getElem?_getD, hz]; rfl
      have hs : Stay none H (H ++ [bx k vN vA]) := Stay.app none H _
      have hl := loop29o hG h0 hW hm hz (h4 _ (List.getElem_mem _)) (fun n hn => hc h1 n (by omega) (by rw [hgz]; exact hn)) (H0 := H) (prot := prot) (append_get.1 : (H ++ [bx k vN vA])[H.length]? = _) (hA.stay hs) (hx.stay hs) (W[m]'(by omega)).length 0 (by omega)
      subst hvN hvA hvx
      exact f29_F_2 all3 e1 (by rw [beq_eq_false_iff_ne]; omega) hl
  · have e1 : (!(lw low).toList == []) = true := by
      rw [hnl]
      cases low with
      | nil => exact absurd rfl h1
      | cons a l => rfl
    subst hvN hvA hvx
    exact f29_F_0 all3 e1
end Go.Proofs.Ythjkodbinkiifaa.Am23
set_option linter.unusedVariables false
open Go Go.Proofs.Ythjkodbinkiifaa.Am
namespace Go.Proofs.Ythjkodbinkiifaa.Am23
theorem f8_F_0 {x0a : Int} {x0ba : Option Addr} {x0bn x0bc : Nat} {x0ca : Option Addr} {x0cn x0cc : Nat} {x1 : ByteArray} {x2 : Int} {x3 : ByteArray} {H : AHeap} {prot : Nat} {x18a : Int} {x18ba : Option Addr} {x18bn x18bc : Nat} {x18ca : Option Addr} {x18cn x18cc : Nat} {x19 : Bool} {x23 x25 : Int} {x39 : Bool} (h1 : [Value.int .i64 x0a, Value.slice x0ba x0bn x0bc, Value.slice x0ca x0cn x0cc].all isCell = true) (h2 : getCells (H ++ [vo [Value.int .i64 x0a, Value.slice x0ba x0bn x0bc, Value.slice x0ca x0cn x0cc] 25]) (List.length H) [Value.int .i64 x0a, Value.slice x0ba x0bn x0bc, Value.slice x0ca x0cn x0cc].length 0 3 = some [Value.int .i64 x18a, Value.slice x18ba x18bn x18bc, Value.slice x18ca x18cn x18cc]) (h3 : callInf cfg 11 [Value.agg { toList := [Value.int .i64 x18a, Value.slice x18ba x18bn x18bc, Value.slice x18ca x18cn x18cc] }] (List.length H) (H ++ [vo [Value.int .i64 x0a, Value.slice x0ba x0bn x0bc, Value.slice x0ca x0cn x0cc] 25]) = some (Value.bool x19, H ++ [vo [Value.int .i64 x0a, Value.slice x0ba x0bn x0bc, Value.slice x0ca x0cn x0cc] 25])) (h4 : (!x19) = false) (h5 : getCells (H ++ [vo [Value.int .i64 x0a, Value.slice x0ba x0bn x0bc, Value.slice x0ca x0cn x0cc] 25]) (List.length H) [Value.int .i64 x0a, Value.slice x0ba x0bn x0bc, Value.slice x0ca x0cn x0cc].length (0 + 0) 1 = some [Value.int .i64 x23]) (h6 : callInf cfg 26 [Value.int .i64 x23, Value.string x1] (List.length H) (H ++ [vo [Value.int .i64 x0a, Value.slice x0ba x0bn x0bc, Value.slice x0ca x0cn x0cc] 25]) = some (Value.int .i64 x25, H ++ [vo [Value.int .i64 x0a, Value.slice x0ba x0bn x0bc, Value.slice x0ca x0cn x0cc] 25])) (h7 : (x25 != 0) = true) (h8 : callInf cfg 12 [] (List.length H) (H ++ [vo [Value.int .i64 x0a, Value.slice x0ba x0bn x0bc, Value.slice x0ca x0cn x0cc] 25]) = some (Value.bool x39, H ++ [vo [Value.int .i64 x0a, Value.slice x0ba x0bn x0bc, Value.slice x0ca x0cn x0cc] 25])) : callInf cfg 8 [.agg #[.int .i64 x0a, .slice x0ba x0bn x0bc, .slice x0ca x0cn x0cc], .string x1, .int .i64 x2, .string x3] prot H = some (Value.bool x39, H) :=
  fn_of2 a8 [.e, .v (.agg #[.int .i64 x18a, .slice x18ba x18bn x18bc, .slice x18ca x18cn x18cc]), .v (.bool x19), .e, .b false, .b false, .v (.int .i64 x23), .b false, .b false, .v (.int .i64 x25), .b false, .e, .b false, .b true, .b true, .b true, .b true, .b true, .b true, .b true, .b true, .b true, .b true, .v (.bool x39)] (ai h1 (ai h2 (ai h3 (ai h4 (ai h4 (ai h5 (ai h4 (ai h4 (ai h6 (ai h4 (ai h4 (ai h7 (ai h7 (ai h7 (ai h7 (ai h7 (ai h7 (ai (Eq.refl true) (ai (Eq.refl true) (ai (Eq.refl true) (ai (Eq.refl true) (ai h8 (Eq.refl ((Value.bool x39, H) : Value × AHeap)))))))))))))))))))))))) (by kernel_rfl) rfl
theorem f8_F_1 {x0a : Int} {x0ba : Option Addr} {x0bn x0bc : Nat} {x0ca : Option Addr} {x0cn x0cc : Nat} {x1 : ByteArray} {x2 : Int} {x3 : ByteArray} {H : AHeap} {prot : Nat} {x18a : Int} {x18ba : Option Addr} {x18bn x18bc : Nat} {x18ca : Option Addr} {x18cn x18cc : Nat} {x19 : Bool} {x23 x25 x30 x32 : Int} {x39 : Bool} (h1 : [Value.int .i64 x0a, Value.slice x0ba x0bn x0bc, Value.slice x0ca x0cn x0cc].all isCell = true) (h2 : getCells (H ++ [vo [Value.int .i64 x0a, Value.slice x0ba x0bn x0bc, Value.slice x0ca x0cn x0cc] 25]) (List.length H) [Value.int .i64 x0a, Value.slice x0ba x0bn x0bc, Value.slice x0ca x0cn x0cc].length 0 3 = some [Value.int .i64 x18a, Value.slice x18ba x18bn x18bc, Value.slice x18ca x18cn x18cc]) (h3 : callInf cfg 11 [Value.agg { toList := [Value.int .i64 x18a, Value.slice x18ba x18bn x18bc, Value.slice x18ca x18cn x18cc] }] (List.length H) (H ++ [vo [Value.int .i64 x0a, Value.slice x0ba x0bn x0bc, Value.slice x0ca x0cn x0cc] 25]) = some (Value.bool x19, H ++ [vo [Value.int .i64 x0a, Value.slice x0ba x0bn x0bc, Value.slice x0ca x0cn x0cc] 25])) (h4 : (!x19) = false) (h5 : getCells (H ++ [vo [Value.int .i64 x0a, Value.slice x0ba x0bn x0bc, Value.slice x0ca x0cn x0cc] 25]) (List.length H) [Value.int .i64 x0a, Value.slice x0ba x0bn x0bc, Value.slice x0ca x0cn x0cc].length (0 + 0) 1 = some [Value.int .i64 x23]) (h6 : callInf cfg 26 [Value.int .i64 x23, Value.string x1] (List.length H) (H ++ [vo [Value.int .i64 x0a, Value.slice x0ba x0bn x0bc, Value.slice x0ca x0cn x0cc] 25]) = some (Value.int .i64 x25, H ++ [vo [Value.int .i64 x0a, Value.slice x0ba x0bn x0bc, Value.slice x0ca x0cn x0cc] 25])) (h7 : (x25 != 0) = false) (h8 : getCells (H ++ [vo [Value.int .i64 x0a, Value.slice x0ba x0bn x0bc, Value.slice x0ca x0cn x0cc] 25]) (List.length H) [Value.int .i64 x0a, Value.slice x0ba x0bn x0bc, Value.slice x0ca x0cn x0cc].length (0 + 0) 1 = some [Value.int .i64 x30]) (h9 : callInf cfg 26 [Value.int .i64 x30, Value.string x3] (List.length H) (H ++ [vo [Value.int .i64 x0a, Value.slice x0ba x0bn x0bc, Value.slice x0ca x0cn x0cc] 25]) = some (Value.int .i64 x32, H ++ [vo [Value.int .i64 x0a, Value.slice x0ba x0bn x0bc, Value.slice x0ca x0cn x0cc] 25])) (h10 : (x32 != 0) = true) (h11 : callInf cfg 12 [] (List.length H) (H ++ [vo [Value.int .i64 x0a, Value.slice x0ba x0bn x0bc, Value.slice x0ca x0cn x0cc] 25]) = some (Value.bool x39, H ++ [vo [Value.int .i64 x0a, Value.slice x0ba x0bn x0bc, Value.slice x0ca x0cn x0cc] 25])) : callInf cfg 8 [.agg #[.int .i64 x0a, .slice x0ba x0bn x0bc, .slice x0ca x0cn x0cc], .string x1, .int .i64 x2, .string x3] prot H = some (Value.bool x39, H) :=
  fn_of2 a8 [.e, .v (.agg #[.int .i64 x18a, .slice x18ba x18bn x18bc, .slice x18ca x18cn x18cc]), .v (.bool x19), .e, .b false, .b false, .v (.int .i64 x23), .b false, .b false, .v (.int .i64 x25), .b false, .e, .b false, .b false, .b false, .v (.int .i64 x30), .b false, .b false, .v (.int .i64 x32), .b false, .e, .b false, .b true, .b true, .b true, .b true, .v (.bool x39)] (ai h1 (ai h2 (ai h3 (ai h4 (ai h4 (ai h5 (ai h4 (ai h4 (ai h6 (ai h4 (ai h4 (ai h7 (ai h7 (ai h8 (ai h7 (ai h7 (ai h9 (ai h7 (ai h7 (ai h10 (ai h10 (ai h10 (ai (Eq.refl true) (ai h11 (Eq.refl ((Value.bool x39, H) : Value × AHeap)))))))))))))))))))))))))) (by kernel_rfl) rfl
theorem f8_F_5 {x0a : Int} {x0ba : Option Addr} {x0bn x0bc : Nat} {x0ca : Option Addr} {x0cn x0cc : Nat} {x1 : ByteArray} {x2 : Int} {x3 : ByteArray} {H : AHeap} {prot : Nat} {x18a : Int} {x18ba : Option Addr} {x18bn x18bc : Nat} {x18ca : Option Addr} {x18cn x18cc : Nat} {x19 : Bool} {x23 x25 x30 x32 : Int} {x36 : Bool} {x45a : Int} {x45ba : Option Addr} {x45bn x45bc : Nat} {x45ca : Option Addr} {x45cn x45cc : Nat} {x48aa : Option Addr} {x48an x48ac : Nat} {x48b : Int} {H1 : AHeap} {x52 : Int} {z1 : ByteArray} {z2 : Int} {z3 : ByteArray} {z4p z4o z4l : Nat} {z8 : Value} {z9a : Option Addr} {z9n z9c : Nat} {z11 : Bool} {H2 : AHeap} {x126a : Int} {x126ba : Option Addr} {x126bn x126bc : Nat} {x126ca : Option Addr} {x126cn x126cc : Nat} {x128a : Bool} {x128b x132 x143 x171a : Int} {x171ba : Option Addr} {x171bn x171bc : Nat} {x171ca : Option Addr} {x171cn x171cc : Nat} {x175 : Bool} (h1 : [Value.int .i64 x0a, Value.slice x0ba x0bn x0bc, Value.slice x0ca x0cn x0cc].all isCell = true) (h2 : getCells (H ++ [vo [Value.int .i64 x0a, Value.slice x0ba x0bn x0bc, Value.slice x0ca x0cn x0cc] 25]) (List.length H) [Value.int .i64 x0a, Value.slice x0ba x0bn x0bc, Value.slice x0ca x0cn x0cc].length 0 3 = some [Value.int .i64 x18a, Value.slice x18ba x18bn x18bc, Value.slice x18ca x18cn x18cc]) (h3 : callInf cfg 11 [Value.agg { toList := [Value.int .i64 x18a, Value.slice x18ba x18bn x18bc, Value.slice x18ca x18cn x18cc] }] (List.length H) (H ++ [vo [Value.int .i64 x0a, Value.slice x0ba x0bn x0bc, Value.slice x0ca x0cn x0cc] 25]) = some (Value.bool x19, H ++ [vo [Value.int .i64 x0a, Value.slice x0ba x0bn x0bc, Value.slice x0ca x0cn x0cc] 25])) (h4 : (!x19) = false) (h5 : getCells (H ++ [vo [Value.int .i64 x0a, Value.slice x0ba x0bn x0bc, Value.slice x0ca x0cn x0cc] 25]) (List.length H) [Value.int .i64 x0a, Value.slice x0ba x0bn x0bc, Value.slice x0ca x0cn x0cc].length (0 + 0) 1 = some [Value.int .i64 x23]) (h6 : callInf cfg 26 [Value.int .i64 x23, Value.string x1] (List.length H) (H ++ [vo [Value.int .i64 x0a, Value.slice x0ba x0bn x0bc, Value.slice x0ca x0cn x0cc] 25]) = some (Value.int .i64 x25, H ++ [vo [Value.int .i64 x0a, Value.slice x0ba x0bn x0bc, Value.slice x0ca x0cn x0cc] 25])) (h7 : (x25 != 0) = false) (h8 : getCells (H ++ [vo [Value.int .i64 x0a, Value.slice x0ba x0bn x0bc, Value.slice x0ca x0cn x0cc] 25]) (List.length H) [Value.int .i64 x0a, Value.slice x0ba x0bn x0bc, Value.slice x0ca x0cn x0cc].length (0 + 0) 1 = some [Value.int .i64 x30]) (h9 : callInf cfg 26 [Value.int .i64 x30, Value.string x3] (List.length H) (H ++ [vo [Value.int .i64 x0a, Value.slice x0ba x0bn x0bc, Value.slice x0ca x0cn x0cc] 25]) = some (Value.int .i64 x32, H ++ [vo [Value.int .i64 x0a, Value.slice x0ba x0bn x0bc, Value.slice x0ca x0cn x0cc] 25])) (h10 : (x32 != 0) = false) (h11 : callInf cfg 12 [] (List.length H) (H ++ [vo [Value.int .i64 x0a, Value.slice x0ba x0bn x0bc, Value.slice x0ca x0cn x0cc] 25]) = some (Value.bool x36, H ++ [vo [Value.int .i64 x0a, Value.slice x0ba x0bn x0bc, Value.slice x0ca x0cn x0cc] 25])) (h12 : (!x36) = false) (h13 : Fit .i64 (x2.tmod 60 + 60)) (h14 : getCells (H ++ [vo [Value.int .i64 x0a, Value.slice x0ba x0bn x0bc, Value.slice x0ca x0cn x0cc] 25]) (List.length H) [Value.int .i64 x0a, Value.slice x0ba x0bn x0bc, Value.slice x0ca x0cn x0cc].length 0 3 = some [Value.int .i64 x45a, Value.slice x45ba x45bn x45bc, Value.slice x45ca x45cn x45cc]) (h15 : callInf cfg 23 [Value.agg { toList := [Value.int .i64 x45a, Value.slice x45ba x45bn x45bc, Value.slice x45ca x45cn x45cc] }, Value.string x1, Value.int .i64 ((x2.tmod 60 + 60).tmod 60)] (List.length H) (H ++ [vo [Value.int .i64 x0a, Value.slice x0ba x0bn x0bc, Value.slice x0ca x0cn x0cc] 25]) = some (Value.tuple { toList := [Value.slice x48aa x48an x48ac, Value.int .i64 x48b] }, H1)) (h16 : callInf cfg 15 [Value.int .i64 x48b] (List.length H) H1 = some (Value.int .i64 x52, H1)) (h17 : (x52 != 0) = false) (h18 : ¬((↑x48an : Int) > (x2.tmod 60 + 60).tmod 60)) (h19 : lpInf (lpOf cfg a8 0 prot H) ([Value.string x1, Value.int .i64 ((x2.tmod 60 + 60).tmod 60), Value.string x3, Value.pointer (some ⟨List.length H, 0, some [Value.int .i64 x0a, Value.slice x0ba x0bn x0bc, Value.slice x0ca x0cn x0cc].length⟩), Value.slice x48aa x48an x48ac, Value.bool false, Value.int .i64 0], H1) = some (Ex.exit 0, [Value.string z1, Value.int .i64 z2, Value.string z3, Value.pointer (some ⟨z4p, z4o, some z4l⟩), z8, Value.slice z9a z9n z9c, Value.bool z11], H2)) (h20 : getCells H2 z4p z4l z4o 3 = some [Value.int .i64 x126a, Value.slice x126ba x126bn x126bc, Value.slice x126ca x126cn x126cc]) (h21 : callInf cfg 27 [Value.agg { toList := [Value.int .i64 x126a, Value.slice x126ba x126bn x126bc, Value.slice x126ca x126cn x126cc] }, Value.string z3] (List.length H) H2 = some (Value.tuple { toList := [Value.bool x128a, Value.int .i64 x128b] }, H2)) (h22 : callInf cfg 15 [Value.int .i64 x128b] (List.length H) H2 = some (Value.int .i64 x132, H2)) (h23 : (x132 != 0) = false) (h24 : x128a = true) (h25 : (↑z3.size : Int) ≤ 4096) (h26 : callInf cfg 28 [Value.string z1, Value.string z3] (List.length H) H2 = some (Value.int .i64 x143, H2)) (h27 : x143 ≤ 0) (h28 : (↑z9n : Int) < z2) (h29 : (z11 == true) = true) (h30 : getCells H2 z4p z4l z4o 3 = some [Value.int .i64 x171a, Value.slice x171ba x171bn x171bc, Value.slice x171ca x171cn x171cc]) (h31 : callInf cfg 29 [Value.agg { toList := [Value.int .i64 x171a, Value.slice x171ba x171bn x171bc, Value.slice x171ca x171cn x171cc] }, Value.slice z9a z9n z9c, Value.string z1, Value.int .i64 z2] (List.length H) H2 = some (Value.bool x175, H2)) : callInf cfg 8 [.agg #[.int .i64 x0a, .slice x0ba x0bn x0bc, .slice x0ca x0cn x0cc], .string x1, .int .i64 x2, .string x3] prot H = some (Value.bool x175, H) :=
  fn_of2 a8 [.e, .v (.agg #[.int .i64 x18a, .slice x18ba x18bn x18bc, .slice x18ca x18cn x18cc]), .v (.bool x19), .e, .b false, .b false, .v (.int .i64 x23), .b false, .b false, .v (.int .i64 x25), .b false, .e, .b false, .b false, .b false, .v (.int .i64 x30), .b false, .b false, .v (.int .i64 x32), .b false, .e, .b false, .b false, .v (.bool x36), .b false, .e, .b false, .b false, .e, .e, .e, .v (.agg #[.int .i64 x45a, .slice x45ba x45bn x45bc, .slice x45ca x45cn x45cc]), .r (.tuple #[.slice x48aa x48an x48ac, .int .i64 x48b]) H1, .v (.int .i64 x52), .e, .b false, .b false, .e, .b false, .b false, .e, .b false, .b false, .lo (.exit 0, [.string z1, .int .i64 z2, .string z3, .pointer (some ⟨z4p, z4o, some z4l⟩), z8, .slice z9a z9n z9c, .bool z11], H2), .v (.agg #[.int .i64 x126a, .slice x126ba x126bn x126bc, .slice x126ca x126cn x126cc]), .v (.tuple #[.bool x128a, .int .i64 x128b]), .v (.int .i64 x132), .e, .b false, .b true, .b true, .e, .b true, .e, .b true, .b true, .b true, .b true, .v (.int .i64 x143), .b true, .e, .b true, .b true, .b true, .e, .b true, .b true, .e, .b true, .b true, .b true, .b true, .b true, .b true, .b true, .b true, .e, .b true, .v (.agg #[.int .i64 x171a, .slice x171ba x171bn x171bc, .slice x171ca x171cn x171cc]), .b true, .b true, .b true, .b true, .v (.bool x175), .b true] (ai h1 (ai h2 (ai h3 (ai h4 (ai h4 (ai h5 (ai h4 (ai h4 (ai h6 (ai h4 (ai h4 (ai h7 (ai h7 (ai h8 (ai h7 (ai h7 (ai h9 (ai h7 (ai h7 (ai h10 (ai h11 (ai h10 (ai h10 (ai h12 (ai (show (60 : Int) ≠ 0 by decide) (ai h13 (ai (show (60 : Int) ≠ 0 by decide) (ai h14 (ai h15 (ai h16 (ai h17 (ai h17 (ai h17 (ai h17 (ai h17 (ai (decide_eq_false h18) (ai h19 (ai h20 (ai h21 (ai h22 (ai h23 (ai h24 (ai h24 (ai h24 (ai h24 (ai (decide_eq_true h25) (ai (decide_eq_true h25) (ai (decide_eq_true h25) (ai h26 (ai (decide_eq_true h25) (ai (decide_eq_true h25) (ai (decide_eq_true h27) (ai (decide_eq_true h27) (ai (decide_eq_true h27) (ai (decide_eq_true h27) (ai (decide_eq_true h27) (ai (decide_eq_true h28) (ai (decide_eq_true h28) (ai (decide_eq_true h28) (ai (decide_eq_true h28) (ai (decide_eq_true h27) (ai (decide_eq_true h28) (ai (decide_eq_true h27) (ai h29 (ai h30 (ai h29 (ai h29 (ai h29 (ai h29 (ai h31 (ai h29 (Eq.refl ((Value.bool x175, H) : Value × AHeap))))))))))))))))))))))))))))))))))))))))))))))))))))))))))))))))))))))))) (by kernel_rfl) rfl
theorem f8_F_7 {x0a : Int} {x0ba : Option Addr} {x0bn x0bc : Nat} {x0ca : Option Addr} {x0cn x0cc : Nat} {x1 : ByteArray} {x2 : Int} {x3 : ByteArray} {H : AHeap} {prot : Nat} {x18a : Int} {x18ba : Option Addr} {x18bn x18bc : Nat} {x18ca : Option Addr} {x18cn x18cc : Nat} {x19 : Bool} {x23 x25 x30 x32 : Int} {x36 : Bool} {x45a : Int} {x45ba : Option Addr} {x45bn x45bc : Nat} {x45ca : Option Addr} {x45cn x45cc : Nat} {x48aa : Option Addr} {x48an x48ac : Nat} {x48b : Int} {H1 : AHeap} {x52 : Int} {z1 : ByteArray} {z2 : Int} {z3 : ByteArray} {z4p z4o z4l : Nat} {z8 : Value} {z9a : Option Addr} {z9n z9c : Nat} {z11 : Bool} {H2 : AHeap} {x126a : Int} {x126ba : Option Addr} {x126bn x126bc : Nat} {x126ca : Option Addr} {x126cn x126cc : Nat} {x128a : Bool} {x128b x132 x143 : Int} {x160p x160o x160l : Nat} {x161 : ByteArray} {x162 x171a : Int} {x171ba : Option Addr} {x171bn x171bc : Nat} {x171ca : Option Addr} {x171cn x171cc : Nat} {x175 : Bool} (h1 : [Value.int .i64 x0a, Value.slice x0ba x0bn x0bc, Value.slice x0ca x0cn x0cc].all isCell = true) (h2 : getCells (H ++ [vo [Value.int .i64 x0a, Value.slice x0ba x0bn x0bc, Value.slice x0ca x0cn x0cc] 25]) (List.length H) [Value.int .i64 x0a, Value.slice x0ba x0bn x0bc, Value.slice x0ca x0cn x0cc].length 0 3 = some [Value.int .i64 x18a, Value.slice x18ba x18bn x18bc, Value.slice x18ca x18cn x18cc]) (h3 : callInf cfg 11 [Value.agg { toList := [Value.int .i64 x18a, Value.slice x18ba x18bn x18bc, Value.slice x18ca x18cn x18cc] }] (List.length H) (H ++ [vo [Value.int .i64 x0a, Value.slice x0ba x0bn x0bc, Value.slice x0ca x0cn x0cc] 25]) = some (Value.bool x19, H ++ [vo [Value.int .i64 x0a, Value.slice x0ba x0bn x0bc, Value.slice x0ca x0cn x0cc] 25])) (h4 : (!x19) = false) (h5 : getCells (H ++ [vo [Value.int .i64 x0a, Value.slice x0ba x0bn x0bc, Value.slice x0ca x0cn x0cc] 25]) (List.length H) [Value.int .i64 x0a, Value.slice x0ba x0bn x0bc, Value.slice x0ca x0cn x0cc].length (0 + 0) 1 = some [Value.int .i64 x23]) (h6 : callInf cfg 26 [Value.int .i64 x23, Value.string x1] (List.length H) (H ++ [vo [Value.int .i64 x0a, Value.slice x0ba x0bn x0bc, Value.slice x0ca x0cn x0cc] 25]) = some (Value.int .i64 x25, H ++ [vo [Value.int .i64 x0a, Value.slice x0ba x0bn x0bc, Value.slice x0ca x0cn x0cc] 25])) (h7 : (x25 != 0) = false) (h8 : getCells (H ++ [vo [Value.int .i64 x0a, Value.slice x0ba x0bn x0bc, Value.slice x0ca x0cn x0cc] 25]) (List.length H) [Value.int .i64 x0a, Value.slice x0ba x0bn x0bc, Value.slice x0ca x0cn x0cc].length (0 + 0) 1 = some [Value.int .i64 x30]) (h9 : callInf cfg 26 [Value.int .i64 x30, Value.string x3] (List.length H) (H ++ [vo [Value.int .i64 x0a, Value.slice x0ba x0bn x0bc, Value.slice x0ca x0cn x0cc] 25]) = some (Value.int .i64 x32, H ++ [vo [Value.int .i64 x0a, Value.slice x0ba x0bn x0bc, Value.slice x0ca x0cn x0cc] 25])) (h10 : (x32 != 0) = false) (h11 : callInf cfg 12 [] (List.length H) (H ++ [vo [Value.int .i64 x0a, Value.slice x0ba x0bn x0bc, Value.slice x0ca x0cn x0cc] 25]) = some (Value.bool x36, H ++ [vo [Value.int .i64 x0a, Value.slice x0ba x0bn x0bc, Value.slice x0ca x0cn x0cc] 25])) (h12 : (!x36) = false) (h13 : Fit .i64 (x2.tmod 60 + 60)) (h14 : getCells (H ++ [vo [Value.int .i64 x0a, Value.slice x0ba x0bn x0bc, Value.slice x0ca x0cn x0cc] 25]) (List.length H) [Value.int .i64 x0a, Value.slice x0ba x0bn x0bc, Value.slice x0ca x0cn x0cc].length 0 3 = some [Value.int .i64 x45a, Value.slice x45ba x45bn x45bc, Value.slice x45ca x45cn x45cc]) (h15 : callInf cfg 23 [Value.agg { toList := [Value.int .i64 x45a, Value.slice x45ba x45bn x45bc, Value.slice x45ca x45cn x45cc] }, Value.string x1, Value.int .i64 ((x2.tmod 60 + 60).tmod 60)] (List.length H) (H ++ [vo [Value.int .i64 x0a, Value.slice x0ba x0bn x0bc, Value.slice x0ca x0cn x0cc] 25]) = some (Value.tuple { toList := [Value.slice x48aa x48an x48ac, Value.int .i64 x48b] }, H1)) (h16 : callInf cfg 15 [Value.int .i64 x48b] (List.length H) H1 = some (Value.int .i64 x52, H1)) (h17 : (x52 != 0) = false) (h18 : ¬((↑x48an : Int) > (x2.tmod 60 + 60).tmod 60)) (h19 : lpInf (lpOf cfg a8 0 prot H) ([Value.string x1, Value.int .i64 ((x2.tmod 60 + 60).tmod 60), Value.string x3, Value.pointer (some ⟨List.length H, 0, some [Value.int .i64 x0a, Value.slice x0ba x0bn x0bc, Value.slice x0ca x0cn x0cc].length⟩), Value.slice x48aa x48an x48ac, Value.bool false, Value.int .i64 0], H1) = some (Ex.exit 0, [Value.string z1, Value.int .i64 z2, Value.string z3, Value.pointer (some ⟨z4p, z4o, some z4l⟩), z8, Value.slice z9a z9n z9c, Value.bool z11], H2)) (h20 : getCells H2 z4p z4l z4o 3 = some [Value.int .i64 x126a, Value.slice x126ba x126bn x126bc, Value.slice x126ca x126cn x126cc]) (h21 : callInf cfg 27 [Value.agg { toList := [Value.int .i64 x126a, Value.slice x126ba x126bn x126bc, Value.slice x126ca x126cn x126cc] }, Value.string z3] (List.length H) H2 = some (Value.tuple { toList := [Value.bool x128a, Value.int .i64 x128b] }, H2)) (h22 : callInf cfg 15 [Value.int .i64 x128b] (List.length H) H2 = some (Value.int .i64 x132, H2)) (h23 : (x132 != 0) = false) (h24 : x128a = true) (h25 : (↑z3.size : Int) ≤ 4096) (h26 : callInf cfg 28 [Value.string z1, Value.string z3] (List.length H) H2 = some (Value.int .i64 x143, H2)) (h27 : x143 ≤ 0) (h28 : ¬((↑z9n : Int) < z2)) (h29 : z2 > 0) (h30 : Fit .i64 ((↑z9n : Int) - 1)) (h31 : aindexAddr cfg.P 43 (Value.slice z9a z9n z9c) (Value.int .i64 ((↑z9n : Int) - 1)) = some (Value.pointer (some ⟨x160p, x160o, some x160l⟩))) (h32 : getCells H2 x160p x160l x160o 1 = some [Value.string x161]) (h33 : callInf cfg 28 [Value.string z3, Value.string x161] (List.length H) H2 = some (Value.int .i64 x162, H2)) (h34 : (z11 == decide (x162 ≤ 0)) = true) (h35 : getCells H2 z4p z4l z4o 3 = some [Value.int .i64 x171a, Value.slice x171ba x171bn x171bc, Value.slice x171ca x171cn x171cc]) (h36 : callInf cfg 29 [Value.agg { toList := [Value.int .i64 x171a, Value.slice x171ba x171bn x171bc, Value.slice x171ca x171cn x171cc] }, Value.slice z9a z9n z9c, Value.string z1, Value.int .i64 z2] (List.length H) H2 = some (Value.bool x175, H2)) : callInf cfg 8 [.agg #[.int .i64 x0a, .slice x0ba x0bn x0bc, .slice x0ca x0cn x0cc], .string x1, .int .i64 x2, .string x3] prot H = some (Value.bool x175, H) :=
  fn_of2 a8 [.e, .v (.agg #[.int .i64 x18a, .slice x18ba x18bn x18bc, .slice x18ca x18cn x18cc]), .v (.bool x19), .e, .b false, .b false, .v (.int .i64 x23), .b false, .b false, .v (.int .i64 x25), .b false, .e, .b false, .b false, .b false, .v (.int .i64 x30), .b false, .b false, .v (.int .i64 x32), .b false, .e, .b false, .b false, .v (.bool x36), .b false, .e, .b false, .b false, .e, .e, .e, .v (.agg #[.int .i64 x45a, .slice x45ba x45bn x45bc, .slice x45ca x45cn x45cc]), .r (.tuple #[.slice x48aa x48an x48ac, .int .i64 x48b]) H1, .v (.int .i64 x52), .e, .b false, .b false, .e, .b false, .b false, .e, .b false, .b false, .lo (.exit 0, [.string z1, .int .i64 z2, .string z3, .pointer (some ⟨z4p, z4o, some z4l⟩), z8, .slice z9a z9n z9c, .bool z11], H2), .v (.agg #[.int .i64 x126a, .slice x126ba x126bn x126bc, .slice x126ca x126cn x126cc]), .v (.tuple #[.bool x128a, .int .i64 x128b]), .v (.int .i64 x132), .e, .b false, .b true, .b true, .e, .b true, .e, .b true, .b true, .b true, .b true, .v (.int .i64 x143), .b true, .e, .b true, .b true, .b true, .e, .b true, .b true, .e, .b true, .b false, .b false, .e, .b false, .b true, .b true, .b true, .b true, .e, .b true, .e, .b true, .v (.pointer (some ⟨x160p, x160o, some x160l⟩)), .b true, .v (.string x161), .b true, .v (.int .i64 x162), .b true, .e, .b false, .b true, .b true, .b false, .b true, .e, .b true, .v (.agg #[.int .i64 x171a, .slice x171ba x171bn x171bc, .slice x171ca x171cn x171cc]), .b true, .b true, .b true, .b true, .v (.bool x175), .b true] (ai h1 (ai h2 (ai h3 (ai h4 (ai h4 (ai h5 (ai h4 (ai h4 (ai h6 (ai h4 (ai h4 (ai h7 (ai h7 (ai h8 (ai h7 (ai h7 (ai h9 (ai h7 (ai h7 (ai h10 (ai h11 (ai h10 (ai h10 (ai h12 (ai (show (60 : Int) ≠ 0 by decide) (ai h13 (ai (show (60 : Int) ≠ 0 by decide) (ai h14 (ai h15 (ai h16 (ai h17 (ai h17 (ai h17 (ai h17 (ai h17 (ai (decide_eq_false h18) (ai h19 (ai h20 (ai h21 (ai h22 (ai h23 (ai h24 (ai h24 (ai h24 (ai h24 (ai (decide_eq_true h25) (ai (decide_eq_true h25) (ai (decide_eq_true h25) (ai h26 (ai (decide_eq_true h25) (ai (decide_eq_true h25) (ai (decide_eq_true h27) (ai (decide_eq_true h27) (ai (decide_eq_true h27) (ai (decide_eq_true h27) (ai (decide_eq_true h27) (ai (decide_eq_false h28) (ai (decide_eq_false h28) (ai (decide_eq_false h28) (ai (decide_eq_true h29) (ai (decide_eq_true h29) (ai (decide_eq_true h29) (ai (decide_eq_true h29) (ai (decide_eq_true h29) (ai h30 (ai (decide_eq_true h29) (ai h31 (ai (decide_eq_true h29) (ai h32 (ai (decide_eq_true h29) (ai h33 (ai (decide_eq_true h29) (ai (decide_eq_false h28) (ai (decide_eq_true h29) (ai (decide_eq_true h27) (ai (decide_eq_false h28) (ai (decide_eq_true h27) (ai h34 (ai h35 (ai h34 (ai h34 (ai h34 (ai h34 (ai h36 (ai h34 (Eq.refl ((Value.bool x175, H) : Value × AHeap))))))))))))))))))))))))))))))))))))))))))))))))))))))))))))))))))))))))))))))))))))))) (by kernel_rfl) rfl
theorem f8_F_9 {x0a : Int} {x0ba : Option Addr} {x0bn x0bc : Nat} {x0ca : Option Addr} {x0cn x0cc : Nat} {x1 : ByteArray} {x2 : Int} {x3 : ByteArray} {H : AHeap} {prot : Nat} {x18a : Int} {x18ba : Option Addr} {x18bn x18bc : Nat} {x18ca : Option Addr} {x18cn x18cc : Nat} {x19 : Bool} {x23 x25 x30 x32 : Int} {x36 : Bool} {x45a : Int} {x45ba : Option Addr} {x45bn x45bc : Nat} {x45ca : Option Addr} {x45cn x45cc : Nat} {x48aa : Option Addr} {x48an x48ac : Nat} {x48b : Int} {H1 : AHeap} {x52 : Int} {z1 : ByteArray} {z2 : Int} {z3 : ByteArray} {z4p z4o z4l : Nat} {z8 : Value} {z9a : Option Addr} {z9n z9c : Nat} {z11 : Bool} {H2 : AHeap} {x126a : Int} {x126ba : Option Addr} {x126bn x126bc : Nat} {x126ca : Option Addr} {x126cn x126cc : Nat} {x128a : Bool} {x128b x132 x143 x171a : Int} {x171ba : Option Addr} {x171bn x171bc : Nat} {x171ca : Option Addr} {x171cn x171cc : Nat} {x175 : Bool} (h1 : [Value.int .i64 x0a, Value.slice x0ba x0bn x0bc, Value.slice x0ca x0cn x0cc].all isCell = true) (h2 : getCells (H ++ [vo [Value.int .i64 x0a, Value.slice x0ba x0bn x0bc, Value.slice x0ca x0cn x0cc] 25]) (List.length H) [Value.int .i64 x0a, Value.slice x0ba x0bn x0bc, Value.slice x0ca x0cn x0cc].length 0 3 = some [Value.int .i64 x18a, Value.slice x18ba x18bn x18bc, Value.slice x18ca x18cn x18cc]) (h3 : callInf cfg 11 [Value.agg { toList := [Value.int .i64 x18a, Value.slice x18ba x18bn x18bc, Value.slice x18ca x18cn x18cc] }] (List.length H) (H ++ [vo [Value.int .i64 x0a, Value.slice x0ba x0bn x0bc, Value.slice x0ca x0cn x0cc] 25]) = some (Value.bool x19, H ++ [vo [Value.int .i64 x0a, Value.slice x0ba x0bn x0bc, Value.slice x0ca x0cn x0cc] 25])) (h4 : (!x19) = false) (h5 : getCells (H ++ [vo [Value.int .i64 x0a, Value.slice x0ba x0bn x0bc, Value.slice x0ca x0cn x0cc] 25]) (List.length H) [Value.int .i64 x0a, Value.slice x0ba x0bn x0bc, Value.slice x0ca x0cn x0cc].length (0 + 0) 1 = some [Value.int .i64 x23]) (h6 : callInf cfg 26 [Value.int .i64 x23, Value.string x1] (List.length H) (H ++ [vo [Value.int .i64 x0a, Value.slice x0ba x0bn x0bc, Value.slice x0ca x0cn x0cc] 25]) = some (Value.int .i64 x25, H ++ [vo [Value.int .i64 x0a, Value.slice x0ba x0bn x0bc, Value.slice x0ca x0cn x0cc] 25])) (h7 : (x25 != 0) = false) (h8 : getCells (H ++ [vo [Value.int .i64 x0a, Value.slice x0ba x0bn x0bc, Value.slice x0ca x0cn x0cc] 25]) (List.length H) [Value.int .i64 x0a, Value.slice x0ba x0bn x0bc, Value.slice x0ca x0cn x0cc].length (0 + 0) 1 = some [Value.int .i64 x30]) (h9 : callInf cfg 26 [Value.int .i64 x30, Value.string x3] (List.length H) (H ++ [vo [Value.int .i64 x0a, Value.slice x0ba x0bn x0bc, Value.slice x0ca x0cn x0cc] 25]) = some (Value.int .i64 x32, H ++ [vo [Value.int .i64 x0a, Value.slice x0ba x0bn x0bc, Value.slice x0ca x0cn x0cc] 25])) (h10 : (x32 != 0) = false) (h11 : callInf cfg 12 [] (List.length H) (H ++ [vo [Value.int .i64 x0a, Value.slice x0ba x0bn x0bc, Value.slice x0ca x0cn x0cc] 25]) = some (Value.bool x36, H ++ [vo [Value.int .i64 x0a, Value.slice x0ba x0bn x0bc, Value.slice x0ca x0cn x0cc] 25])) (h12 : (!x36) = false) (h13 : Fit .i64 (x2.tmod 60 + 60)) (h14 : getCells (H ++ [vo [Value.int .i64 x0a, Value.slice x0ba x0bn x0bc, Value.slice x0ca x0cn x0cc] 25]) (List.length H) [Value.int .i64 x0a, Value.slice x0ba x0bn x0bc, Value.slice x0ca x0cn x0cc].length 0 3 = some [Value.int .i64 x45a, Value.slice x45ba x45bn x45bc, Value.slice x45ca x45cn x45cc]) (h15 : callInf cfg 23 [Value.agg { toList := [Value.int .i64 x45a, Value.slice x45ba x45bn x45bc, Value.slice x45ca x45cn x45cc] }, Value.string x1, Value.int .i64 ((x2.tmod 60 + 60).tmod 60)] (List.length H) (H ++ [vo [Value.int .i64 x0a, Value.slice x0ba x0bn x0bc, Value.slice x0ca x0cn x0cc] 25]) = some (Value.tuple { toList := [Value.slice x48aa x48an x48ac, Value.int .i64 x48b] }, H1)) (h16 : callInf cfg 15 [Value.int .i64 x48b] (List.length H) H1 = some (Value.int .i64 x52, H1)) (h17 : (x52 != 0) = false) (h18 : ¬((↑x48an : Int) > (x2.tmod 60 + 60).tmod 60)) (h19 : lpInf (lpOf cfg a8 0 prot H) ([Value.string x1, Value.int .i64 ((x2.tmod 60 + 60).tmod 60), Value.string x3, Value.pointer (some ⟨List.length H, 0, some [Value.int .i64 x0a, Value.slice x0ba x0bn x0bc, Value.slice x0ca x0cn x0cc].length⟩), Value.slice x48aa x48an x48ac, Value.bool false, Value.int .i64 0], H1) = some (Ex.exit 0, [Value.string z1, Value.int .i64 z2, Value.string z3, Value.pointer (some ⟨z4p, z4o, some z4l⟩), z8, Value.slice z9a z9n z9c, Value.bool z11], H2)) (h20 : getCells H2 z4p z4l z4o 3 = some [Value.int .i64 x126a, Value.slice x126ba x126bn x126bc, Value.slice x126ca x126cn x126cc]) (h21 : callInf cfg 27 [Value.agg { toList := [Value.int .i64 x126a, Value.slice x126ba x126bn x126bc, Value.slice x126ca x126cn x126cc] }, Value.string z3] (List.length H) H2 = some (Value.tuple { toList := [Value.bool x128a, Value.int .i64 x128b] }, H2)) (h22 : callInf cfg 15 [Value.int .i64 x128b] (List.length H) H2 = some (Value.int .i64 x132, H2)) (h23 : (x132 != 0) = false) (h24 : x128a = true) (h25 : (↑z3.size : Int) ≤ 4096) (h26 : callInf cfg 28 [Value.string z1, Value.string z3] (List.length H) H2 = some (Value.int .i64 x143, H2)) (h27 : x143 ≤ 0) (h28 : ¬((↑z9n : Int) < z2)) (h29 : ¬(z2 > 0)) (h30 : (z11 == false) = true) (h31 : getCells H2 z4p z4l z4o 3 = some [Value.int .i64 x171a, Value.slice x171ba x171bn x171bc, Value.slice x171ca x171cn x171cc]) (h32 : callInf cfg 29 [Value.agg { toList := [Value.int .i64 x171a, Value.slice x171ba x171bn x171bc, Value.slice x171ca x171cn x171cc] }, Value.slice z9a z9n z9c, Value.string z1, Value.int .i64 z2] (List.length H) H2 = some (Value.bool x175, H2)) : callInf cfg 8 [.agg #[.int .i64 x0a, .slice x0ba x0bn x0bc, .slice x0ca x0cn x0cc], .string x1, .int .i64 x2, .string x3] prot H = some (Value.bool x175, H) :=
  fn_of2 a8 [.e, .v (.agg #[.int .i64 x18a, .slice x18ba x18bn x18bc, .slice x18ca x18cn x18cc]), .v (.bool x19), .e, .b false, .b false, .v (.int .i64 x23), .b false, .b false, .v (.int .i64 x25), .b false, .e, .b false, .b false, .b false, .v (.int .i64 x30), .b false, .b false, .v (.int .i64 x32), .b false, .e, .b false, .b false, .v (.bool x36), .b false, .e, .b false, .b false, .e, .e, .e, .v (.agg #[.int .i64 x45a, .slice x45ba x45bn x45bc, .slice x45ca x45cn x45cc]), .r (.tuple #[.slice x48aa x48an x48ac, .int .i64 x48b]) H1, .v (.int .i64 x52), .e, .b false, .b false, .e, .b false, .b false, .e, .b false, .b false, .lo (.exit 0, [.string z1, .int .i64 z2, .string z3, .pointer (some ⟨z4p, z4o, some z4l⟩), z8, .slice z9a z9n z9c, .bool z11], H2), .v (.agg #[.int .i64 x126a, .slice x126ba x126bn x126bc, .slice x126ca x126cn x126cc]), .v (.tuple #[.bool x128a, .int .i64 x128b]), .v (.int .i64 x132), .e, .b false, .b true, .b true, .e, .b true, .e, .b true, .b true, .b true, .b true, .v (.int .i64 x143), .b true, .e, .b true, .b true, .b true, .e, .b true, .b true, .e, .b true, .b false, .b false, .e, .b false, .b false, .b false, .b false, .b false, .b false, .b false, .b false, .b false, .b false, .b false, .b false, .b true, .b false, .b true, .e, .b true, .v (.agg #[.int .i64 x171a, .slice x171ba x171bn x171bc, .slice x171ca x171cn x171cc]), .b true, .b true, .b true, .b true, .v (.bool x175), .b true] (ai h1 (ai h2 (ai h3 (ai h4 (ai h4 (ai h5 (ai h4 (ai h4 (ai h6 (ai h4 (ai h4 (ai h7 (ai h7 (ai h8 (ai h7 (ai h7 (ai h9 (ai h7 (ai h7 (ai h10 (ai h11 (ai h10 (ai h10 (ai h12 (ai (show (60 : Int) ≠ 0 by decide) (ai h13 (ai (show (60 : Int) ≠ 0 by decide) (ai h14 (ai h15 (ai h16 (ai h17 (ai h17 (ai h17 (ai h17 (ai h17 (ai (decide_eq_false h18) (ai h19 (ai h20 (ai h21 (ai h22 (ai h23 (ai h24 (ai h24 (ai h24 (ai h24 (ai (decide_eq_true h25) (ai (decide_eq_true h25) (ai (decide_eq_true h25) (ai h26 (ai (decide_eq_true h25) (ai (decide_eq_true h25) (ai (decide_eq_true h27) (ai (decide_eq_true h27) (ai (decide_eq_true h27) (ai (decide_eq_true h27) (ai (decide_eq_true h27) (ai (decide_eq_false h28) (ai (decide_eq_false h28) (ai (decide_eq_false h28) (ai (decide_eq_false h29) (ai (decide_eq_false h29) (ai (decide_eq_false h29) (ai (decide_eq_false h29) (ai (decide_eq_false h29) (ai (decide_eq_false h29) (ai (decide_eq_false h29) (ai (decide_eq_false h29) (ai (decide_eq_false h29) (ai (decide_eq_false h28) (ai (decide_eq_false h29) (ai (decide_eq_true h27) (ai (decide_eq_false h28) (ai (decide_eq_true h27) (ai h30 (ai h31 (ai h30 (ai h30 (ai h30 (ai h30 (ai h32 (ai h30 (Eq.refl ((Value.bool x175, H) : Value × AHeap))))))))))))))))))))))))))))))))))))))))))))))))))))))))))))))))))))))))))))))))))) (by kernel_rfl) rfl
theorem f8_F_11 {x0a : Int} {x0ba : Option Addr} {x0bn x0bc : Nat} {x0ca : Option Addr} {x0cn x0cc : Nat} {x1 : ByteArray} {x2 : Int} {x3 : ByteArray} {H : AHeap} {prot : Nat} {x18a : Int} {x18ba : Option Addr} {x18bn x18bc : Nat} {x18ca : Option Addr} {x18cn x18cc : Nat} {x19 : Bool} {x23 x25 x30 x32 : Int} {x36 : Bool} {x45a : Int} {x45ba : Option Addr} {x45bn x45bc : Nat} {x45ca : Option Addr} {x45cn x45cc : Nat} {x48aa : Option Addr} {x48an x48ac : Nat} {x48b : Int} {H1 : AHeap} {x52 : Int} {z1 : ByteArray} {z2 : Int} {z3 : ByteArray} {z4p z4o z4l : Nat} {z8 : Value} {z9a : Option Addr} {z9n z9c : Nat} {z11 : Bool} {H2 : AHeap} {x126a : Int} {x126ba : Option Addr} {x126bn x126bc : Nat} {x126ca : Option Addr} {x126cn x126cc : Nat} {x128a : Bool} {x128b x132 x143 x171a : Int} {x171ba : Option Addr} {x171bn x171bc : Nat} {x171ca : Option Addr} {x171cn x171cc : Nat} {x175 : Bool} (h1 : [Value.int .i64 x0a, Value.slice x0ba x0bn x0bc, Value.slice x0ca x0cn x0cc].all isCell = true) (h2 : getCells (H ++ [vo [Value.int .i64 x0a, Value.slice x0ba x0bn x0bc, Value.slice x0ca x0cn x0cc] 25]) (List.length H) [Value.int .i64 x0a, Value.slice x0ba x0bn x0bc, Value.slice x0ca x0cn x0cc].length 0 3 = some [Value.int .i64 x18a, Value.slice x18ba x18bn x18bc, Value.slice x18ca x18cn x18cc]) (h3 : callInf cfg 11 [Value.agg { toList := [Value.int .i64 x18a, Value.slice x18ba x18bn x18bc, Value.slice x18ca x18cn x18cc] }] (List.length H) (H ++ [vo [Value.int .i64 x0a, Value.slice x0ba x0bn x0bc, Value.slice x0ca x0cn x0cc] 25]) = some (Value.bool x19, H ++ [vo [Value.int .i64 x0a, Value.slice x0ba x0bn x0bc, Value.slice x0ca x0cn x0cc] 25])) (h4 : (!x19) = false) (h5 : getCells (H ++ [vo [Value.int .i64 x0a, Value.slice x0ba x0bn x0bc, Value.slice x0ca x0cn x0cc] 25]) (List.length H) [Value.int .i64 x0a, Value.slice x0ba x0bn x0bc, Value.slice x0ca x0cn x0cc].length (0 + 0) 1 = some [Value.int .i64 x23]) (h6 : callInf cfg 26 [Value.int .i64 x23, Value.string x1] (List.length H) (H ++ [vo [Value.int .i64 x0a, Value.slice x0ba x0bn x0bc, Value.slice x0ca x0cn x0cc] 25]) = some (Value.int .i64 x25, H ++ [vo [Value.int .i64 x0a, Value.slice x0ba x0bn x0bc, Value.slice x0ca x0cn x0cc] 25])) (h7 : (x25 != 0) = false) (h8 : getCells (H ++ [vo [Value.int .i64 x0a, Value.slice x0ba x0bn x0bc, Value.slice x0ca x0cn x0cc] 25]) (List.length H) [Value.int .i64 x0a, Value.slice x0ba x0bn x0bc, Value.slice x0ca x0cn x0cc].length (0 + 0) 1 = some [Value.int .i64 x30]) (h9 : callInf cfg 26 [Value.int .i64 x30, Value.string x3] (List.length H) (H ++ [vo [Value.int .i64 x0a, Value.slice x0ba x0bn x0bc, Value.slice x0ca x0cn x0cc] 25]) = some (Value.int .i64 x32, H ++ [vo [Value.int .i64 x0a, Value.slice x0ba x0bn x0bc, Value.slice x0ca x0cn x0cc] 25])) (h10 : (x32 != 0) = false) (h11 : callInf cfg 12 [] (List.length H) (H ++ [vo [Value.int .i64 x0a, Value.slice x0ba x0bn x0bc, Value.slice x0ca x0cn x0cc] 25]) = some (Value.bool x36, H ++ [vo [Value.int .i64 x0a, Value.slice x0ba x0bn x0bc, Value.slice x0ca x0cn x0cc] 25])) (h12 : (!x36) = false) (h13 : Fit .i64 (x2.tmod 60 + 60)) (h14 : getCells (H ++ [vo [Value.int .i64 x0a, Value.slice x0ba x0bn x0bc, Value.slice x0ca x0cn x0cc] 25]) (List.length H) [Value.int .i64 x0a, Value.slice x0ba x0bn x0bc, Value.slice x0ca x0cn x0cc].length 0 3 = some [Value.int .i64 x45a, Value.slice x45ba x45bn x45bc, Value.slice x45ca x45cn x45cc]) (h15 : callInf cfg 23 [Value.agg { toList := [Value.int .i64 x45a, Value.slice x45ba x45bn x45bc, Value.slice x45ca x45cn x45cc] }, Value.string x1, Value.int .i64 ((x2.tmod 60 + 60).tmod 60)] (List.length H) (H ++ [vo [Value.int .i64 x0a, Value.slice x0ba x0bn x0bc, Value.slice x0ca x0cn x0cc] 25]) = some (Value.tuple { toList := [Value.slice x48aa x48an x48ac, Value.int .i64 x48b] }, H1)) (h16 : callInf cfg 15 [Value.int .i64 x48b] (List.length H) H1 = some (Value.int .i64 x52, H1)) (h17 : (x52 != 0) = false) (h18 : ¬((↑x48an : Int) > (x2.tmod 60 + 60).tmod 60)) (h19 : lpInf (lpOf cfg a8 0 prot H) ([Value.string x1, Value.int .i64 ((x2.tmod 60 + 60).tmod 60), Value.string x3, Value.pointer (some ⟨List.length H, 0, some [Value.int .i64 x0a, Value.slice x0ba x0bn x0bc, Value.slice x0ca x0cn x0cc].length⟩), Value.slice x48aa x48an x48ac, Value.bool false, Value.int .i64 0], H1) = some (Ex.exit 0, [Value.string z1, Value.int .i64 z2, Value.string z3, Value.pointer (some ⟨z4p, z4o, some z4l⟩), z8, Value.slice z9a z9n z9c, Value.bool z11], H2)) (h20 : getCells H2 z4p z4l z4o 3 = some [Value.int .i64 x126a, Value.slice x126ba x126bn x126bc, Value.slice x126ca x126cn x126cc]) (h21 : callInf cfg 27 [Value.agg { toList := [Value.int .i64 x126a, Value.slice x126ba x126bn x126bc, Value.slice x126ca x126cn x126cc] }, Value.string z3] (List.length H) H2 = some (Value.tuple { toList := [Value.bool x128a, Value.int .i64 x128b] }, H2)) (h22 : callInf cfg 15 [Value.int .i64 x128b] (List.length H) H2 = some (Value.int .i64 x132, H2)) (h23 : (x132 != 0) = false) (h24 : x128a = true) (h25 : (↑z3.size : Int) ≤ 4096) (h26 : callInf cfg 28 [Value.string z1, Value.string z3] (List.length H) H2 = some (Value.int .i64 x143, H2)) (h27 : ¬(x143 ≤ 0)) (h28 : (z11 == false) = true) (h29 : getCells H2 z4p z4l z4o 3 = some [Value.int .i64 x171a, Value.slice x171ba x171bn x171bc, Value.slice x171ca x171cn x171cc]) (h30 : callInf cfg 29 [Value.agg { toList := [Value.int .i64 x171a, Value.slice x171ba x171bn x171bc, Value.slice x171ca x171cn x171cc] }, Value.slice z9a z9n z9c, Value.string z1, Value.int .i64 z2] (List.length H) H2 = some (Value.bool x175, H2)) : callInf cfg 8 [.agg #[.int .i64 x0a, .slice x0ba x0bn x0bc, .slice x0ca x0cn x0cc], .string x1, .int .i64 x2, .string x3] prot H = some (Value.bool x175, H) :=
  fn_of2 a8 [.e, .v (.agg #[.int .i64 x18a, .slice x18ba x18bn x18bc, .slice x18ca x18cn x18cc]), .v (.bool x19), .e, .b false, .b false, .v (.int .i64 x23), .b false, .b false, .v (.int .i64 x25), .b false, .e, .b false, .b false, .b false, .v (.int .i64 x30), .b false, .b false, .v (.int .i64 x32), .b false, .e, .b false, .b false, .v (.bool x36), .b false, .e, .b false, .b false, .e, .e, .e, .v (.agg #[.int .i64 x45a, .slice x45ba x45bn x45bc, .slice x45ca x45cn x45cc]), .r (.tuple #[.slice x48aa x48an x48ac, .int .i64 x48b]) H1, .v (.int .i64 x52), .e, .b false, .b false, .e, .b false, .b false, .e, .b false, .b false, .lo (.exit 0, [.string z1, .int .i64 z2, .string z3, .pointer (some ⟨z4p, z4o, some z4l⟩), z8, .slice z9a z9n z9c, .bool z11], H2), .v (.agg #[.int .i64 x126a, .slice x126ba x126bn x126bc, .slice x126ca x126cn x126cc]), .v (.tuple #[.bool x128a, .int .i64 x128b]), .v (.int .i64 x132), .e, .b false, .b true, .b true, .e, .b true, .e, .b true, .b true, .b true, .b true, .v (.int .i64 x143), .b true, .e, .b true, .b false, .b false, .b false, .b false, .b false, .b false, .b false, .e, .b true, .v (.agg #[.int .i64 x171a, .slice x171ba x171bn x171bc, .slice x171ca x171cn x171cc]), .b true, .b true, .b true, .b true, .v (.bool x175), .b true] (ai h1 (ai h2 (ai h3 (ai h4 (ai h4 (ai h5 (ai h4 (ai h4 (ai h6 (ai h4 (ai h4 (ai h7 (ai h7 (ai h8 (ai h7 (ai h7 (ai h9 (ai h7 (ai h7 (ai h10 (ai h11 (ai h10 (ai h10 (ai h12 (ai (show (60 : Int) ≠ 0 by decide) (ai h13 (ai (show (60 : Int) ≠ 0 by decide) (ai h14 (ai h15 (ai h16 (ai h17 (ai h17 (ai h17 (ai h17 (ai h17 (ai (decide_eq_false h18) (ai h19 (ai h20 (ai h21 (ai h22 (ai h23 (ai h24 (ai h24 (ai h24 (ai h24 (ai (decide_eq_true h25) (ai (decide_eq_true h25) (ai (decide_eq_true h25) (ai h26 (ai (decide_eq_true h25) (ai (decide_eq_true h25) (ai (decide_eq_false h27) (ai (decide_eq_false h27) (ai (decide_eq_false h27) (ai (decide_eq_false h27) (ai (decide_eq_false h27) (ai (decide_eq_false h27) (ai (decide_eq_false h27) (ai h28 (ai h29 (ai h28 (ai h28 (ai h28 (ai h28 (ai h30 (ai h28 (Eq.refl ((Value.bool x175, H) : Value × AHeap)))))))))))))))))))))))))))))))))))))))))))))))))))))))))))))))))))) (by kernel_rfl) rfl
theorem f8_F_13 {x0a : Int} {x0ba : Option Addr} {x0bn x0bc : Nat} {x0ca : Option Addr} {x0cn x0cc : Nat} {x1 : ByteArray} {x2 : Int} {x3 : ByteArray} {H : AHeap} {prot : Nat} {x18a : Int} {x18ba : Option Addr} {x18bn x18bc : Nat} {x18ca : Option Addr} {x18cn x18cc : Nat} {x19 : Bool} {x23 x25 x30 x32 : Int} {x36 : Bool} {x45a : Int} {x45ba : Option Addr} {x45bn x45bc : Nat} {x45ca : Option Addr} {x45cn x45cc : Nat} {x48aa : Option Addr} {x48an x48ac : Nat} {x48b : Int} {H1 : AHeap} {x52 : Int} {z1 : ByteArray} {z2 : Int} {z3 : ByteArray} {z4p z4o z4l : Nat} {z8 : Value} {z9a : Option Addr} {z9n z9c : Nat} {z11 : Bool} {H2 : AHeap} {x126a : Int} {x126ba : Option Addr} {x126bn x126bc : Nat} {x126ca : Option Addr} {x126cn x126cc : Nat} {x128a : Bool} {x128b x132 x171a : Int} {x171ba : Option Addr} {x171bn x171bc : Nat} {x171ca : Option Addr} {x171cn x171cc : Nat} {x175 : Bool} (h1 : [Value.int .i64 x0a, Value.slice x0ba x0bn x0bc, Value.slice x0ca x0cn x0cc].all isCell = true) (h2 : getCells (H ++ [vo [Value.int .i64 x0a, Value.slice x0ba x0bn x0bc, Value.slice x0ca x0cn x0cc] 25]) (List.length H) [Value.int .i64 x0a, Value.slice x0ba x0bn x0bc, Value.slice x0ca x0cn x0cc].length 0 3 = some [Value.int .i64 x18a, Value.slice x18ba x18bn x18bc, Value.slice x18ca x18cn x18cc]) (h3 : callInf cfg 11 [Value.agg { toList := [Value.int .i64 x18a, Value.slice x18ba x18bn x18bc, Value.slice x18ca x18cn x18cc] }] (List.length H) (H ++ [vo [Value.int .i64 x0a, Value.slice x0ba x0bn x0bc, Value.slice x0ca x0cn x0cc] 25]) = some (Value.bool x19, H ++ [vo [Value.int .i64 x0a, Value.slice x0ba x0bn x0bc, Value.slice x0ca x0cn x0cc] 25])) (h4 : (!x19) = false) (h5 : getCells (H ++ [vo [Value.int .i64 x0a, Value.slice x0ba x0bn x0bc, Value.slice x0ca x0cn x0cc] 25]) (List.length H) [Value.int .i64 x0a, Value.slice x0ba x0bn x0bc, Value.slice x0ca x0cn x0cc].length (0 + 0) 1 = some [Value.int .i64 x23]) (h6 : callInf cfg 26 [Value.int .i64 x23, Value.string x1] (List.length H) (H ++ [vo [Value.int .i64 x0a, Value.slice x0ba x0bn x0bc, Value.slice x0ca x0cn x0cc] 25]) = some (Value.int .i64 x25, H ++ [vo [Value.int .i64 x0a, Value.slice x0ba x0bn x0bc, Value.slice x0ca x0cn x0cc] 25])) (h7 : (x25 != 0) = false) (h8 : getCells (H ++ [vo [Value.int .i64 x0a, Value.slice x0ba x0bn x0bc, Value.slice x0ca x0cn x0cc] 25]) (List.length H) [Value.int .i64 x0a, Value.slice x0ba x0bn x0bc, Value.slice x0ca x0cn x0cc].length (0 + 0) 1 = some [Value.int .i64 x30]) (h9 : callInf cfg 26 [Value.int .i64 x30, Value.string x3] (List.length H) (H ++ [vo [Value.int .i64 x0a, Value.slice x0ba x0bn x0bc, Value.slice x0ca x0cn x0cc] 25]) = some (Value.int .i64 x32, H ++ [vo [Value.int .i64 x0a, Value.slice x0ba x0bn x0bc, Value.slice x0ca x0cn x0cc] 25])) (h10 : (x32 != 0) = false) (h11 : callInf cfg 12 [] (List.length H) (H ++ [vo [Value.int .i64 x0a, Value.slice x0ba x0bn x0bc, Value.slice x0ca x0cn x0cc] 25]) = some (Value.bool x36, H ++ [vo [Value.int .i64 x0a, Value.slice x0ba x0bn x0bc, Value.slice x0ca x0cn x0cc] 25])) (h12 : (!x36) = false) (h13 : Fit .i64 (x2.tmod 60 + 60)) (h14 : getCells (H ++ [vo [Value.int .i64 x0a, Value.slice x0ba x0bn x0bc, Value.slice x0ca x0cn x0cc] 25]) (List.length H) [Value.int .i64 x0a, Value.slice x0ba x0bn x0bc, Value.slice x0ca x0cn x0cc].length 0 3 = some [Value.int .i64 x45a, Value.slice x45ba x45bn x45bc, Value.slice x45ca x45cn x45cc]) (h15 : callInf cfg 23 [Value.agg { toList := [Value.int .i64 x45a, Value.slice x45ba x45bn x45bc, Value.slice x45ca x45cn x45cc] }, Value.string x1, Value.int .i64 ((x2.tmod 60 + 60).tmod 60)] (List.length H) (H ++ [vo [Value.int .i64 x0a, Value.slice x0ba x0bn x0bc, Value.slice x0ca x0cn x0cc] 25]) = some (Value.tuple { toList := [Value.slice x48aa x48an x48ac, Value.int .i64 x48b] }, H1)) (h16 : callInf cfg 15 [Value.int .i64 x48b] (List.length H) H1 = some (Value.int .i64 x52, H1)) (h17 : (x52 != 0) = false) (h18 : ¬((↑x48an : Int) > (x2.tmod 60 + 60).tmod 60)) (h19 : lpInf (lpOf cfg a8 0 prot H) ([Value.string x1, Value.int .i64 ((x2.tmod 60 + 60).tmod 60), Value.string x3, Value.pointer (some ⟨List.length H, 0, some [Value.int .i64 x0a, Value.slice x0ba x0bn x0bc, Value.slice x0ca x0cn x0cc].length⟩), Value.slice x48aa x48an x48ac, Value.bool false, Value.int .i64 0], H1) = some (Ex.exit 0, [Value.string z1, Value.int .i64 z2, Value.string z3, Value.pointer (some ⟨z4p, z4o, some z4l⟩), z8, Value.slice z9a z9n z9c, Value.bool z11], H2)) (h20 : getCells H2 z4p z4l z4o 3 = some [Value.int .i64 x126a, Value.slice x126ba x126bn x126bc, Value.slice x126ca x126cn x126cc]) (h21 : callInf cfg 27 [Value.agg { toList := [Value.int .i64 x126a, Value.slice x126ba x126bn x126bc, Value.slice x126ca x126cn x126cc] }, Value.string z3] (List.length H) H2 = some (Value.tuple { toList := [Value.bool x128a, Value.int .i64 x128b] }, H2)) (h22 : callInf cfg 15 [Value.int .i64 x128b] (List.length H) H2 = some (Value.int .i64 x132, H2)) (h23 : (x132 != 0) = false) (h24 : x128a = true) (h25 : ¬((↑z3.size : Int) ≤ 4096)) (h26 : (z11 == false) = true) (h27 : getCells H2 z4p z4l z4o 3 = some [Value.int .i64 x171a, Value.slice x171ba x171bn x171bc, Value.slice x171ca x171cn x171cc]) (h28 : callInf cfg 29 [Value.agg { toList := [Value.int .i64 x171a, Value.slice x171ba x171bn x171bc, Value.slice x171ca x171cn x171cc] }, Value.slice z9a z9n z9c, Value.string z1, Value.int .i64 z2] (List.length H) H2 = some (Value.bool x175, H2)) : callInf cfg 8 [.agg #[.int .i64 x0a, .slice x0ba x0bn x0bc, .slice x0ca x0cn x0cc], .string x1, .int .i64 x2, .string x3] prot H = some (Value.bool x175, H) :=
  fn_of2 a8 [.e, .v (.agg #[.int .i64 x18a, .slice x18ba x18bn x18bc, .slice x18ca x18cn x18cc]), .v (.bool x19), .e, .b false, .b false, .v (.int .i64 x23), .b false, .b false, .v (.int .i64 x25), .b false, .e, .b false, .b false, .b false, .v (.int .i64 x30), .b false, .b false, .v (.int .i64 x32), .b false, .e, .b false, .b false, .v (.bool x36), .b false, .e, .b false, .b false, .e, .e, .e, .v (.agg #[.int .i64 x45a, .slice x45ba x45bn x45bc, .slice x45ca x45cn x45cc]), .r (.tuple #[.slice x48aa x48an x48ac, .int .i64 x48b]) H1, .v (.int .i64 x52), .e, .b false, .b false, .e, .b false, .b false, .e, .b false, .b false, .lo (.exit 0, [.string z1, .int .i64 z2, .string z3, .pointer (some ⟨z4p, z4o, some z4l⟩), z8, .slice z9a z9n z9c, .bool z11], H2), .v (.agg #[.int .i64 x126a, .slice x126ba x126bn x126bc, .slice x126ca x126cn x126cc]), .v (.tuple #[.bool x128a, .int .i64 x128b]), .v (.int .i64 x132), .e, .b false, .b true, .b true, .e, .b true, .e, .b true, .b false, .b false, .b false, .b false, .b false, .b false, .b false, .b false, .b false, .b false, .b false, .b false, .e, .b true, .v (.agg #[.int .i64 x171a, .slice x171ba x171bn x171bc, .slice x171ca x171cn x171cc]), .b true, .b true, .b true, .b true, .v (.bool x175), .b true] (ai h1 (ai h2 (ai h3 (ai h4 (ai h4 (ai h5 (ai h4 (ai h4 (ai h6 (ai h4 (ai h4 (ai h7 (ai h7 (ai h8 (ai h7 (ai h7 (ai h9 (ai h7 (ai h7 (ai h10 (ai h11 (ai h10 (ai h10 (ai h12 (ai (show (60 : Int) ≠ 0 by decide) (ai h13 (ai (show (60 : Int) ≠ 0 by decide) (ai h14 (ai h15 (ai h16 (ai h17 (ai h17 (ai h17 (ai h17 (ai h17 (ai (decide_eq_false h18) (ai h19 (ai h20 (ai h21 (ai h22 (ai h23 (ai h24 (ai h24 (ai h24 (ai h24 (ai (decide_eq_false h25) (ai (decide_eq_false h25) (ai (decide_eq_false h25) (ai (decide_eq_false h25) (ai (decide_eq_false h25) (ai (Eq.refl false) (ai (Eq.refl false) (ai (Eq.refl false) (ai (Eq.refl false) (ai (Eq.refl false) (ai (Eq.refl false) (ai (Eq.refl false) (ai h26 (ai h27 (ai h26 (ai h26 (ai h26 (ai h26 (ai h28 (ai h26 (Eq.refl ((Value.bool x175, H) : Value × AHeap))))))))))))))))))))))))))))))))))))))))))))))))))))))))))))))))))) (by kernel_rfl) rfl
theorem f8_F_15 {x0a : Int} {x0ba : Option Addr} {x0bn x0bc : Nat} {x0ca : Option Addr} {x0cn x0cc : Nat} {x1 : ByteArray} {x2 : Int} {x3 : ByteArray} {H : AHeap} {prot : Nat} {x18a : Int} {x18ba : Option Addr} {x18bn x18bc : Nat} {x18ca : Option Addr} {x18cn x18cc : Nat} {x19 : Bool} {x23 x25 x30 x32 : Int} {x36 : Bool} {x45a : Int} {x45ba : Option Addr} {x45bn x45bc : Nat} {x45ca : Option Addr} {x45cn x45cc : Nat} {x48aa : Option Addr} {x48an x48ac : Nat} {x48b : Int} {H1 : AHeap} {x52 : Int} {z1 : ByteArray} {z2 : Int} {z3 : ByteArray} {z4p z4o z4l : Nat} {z8 : Value} {z9a : Option Addr} {z9n z9c : Nat} {z11 : Bool} {H2 : AHeap} {x126a : Int} {x126ba : Option Addr} {x126bn x126bc : Nat} {x126ca : Option Addr} {x126cn x126cc : Nat} {x128a : Bool} {x128b x132 x171a : Int} {x171ba : Option Addr} {x171bn x171bc : Nat} {x171ca : Option Addr} {x171cn x171cc : Nat} {x175 : Bool} (h1 : [Value.int .i64 x0a, Value.slice x0ba x0bn x0bc, Value.slice x0ca x0cn x0cc].all isCell = true) (h2 : getCells (H ++ [vo [Value.int .i64 x0a, Value.slice x0ba x0bn x0bc, Value.slice x0ca x0cn x0cc] 25]) (List.length H) [Value.int .i64 x0a, Value.slice x0ba x0bn x0bc, Value.slice x0ca x0cn x0cc].length 0 3 = some [Value.int .i64 x18a, Value.slice x18ba x18bn x18bc, Value.slice x18ca x18cn x18cc]) (h3 : callInf cfg 11 [Value.agg { toList := [Value.int .i64 x18a, Value.slice x18ba x18bn x18bc, Value.slice x18ca x18cn x18cc] }] (List.length H) (H ++ [vo [Value.int .i64 x0a, Value.slice x0ba x0bn x0bc, Value.slice x0ca x0cn x0cc] 25]) = some (Value.bool x19, H ++ [vo [Value.int .i64 x0a, Value.slice x0ba x0bn x0bc, Value.slice x0ca x0cn x0cc] 25])) (h4 : (!x19) = false) (h5 : getCells (H ++ [vo [Value.int .i64 x0a, Value.slice x0ba x0bn x0bc, Value.slice x0ca x0cn x0cc] 25]) (List.length H) [Value.int .i64 x0a, Value.slice x0ba x0bn x0bc, Value.slice x0ca x0cn x0cc].length (0 + 0) 1 = some [Value.int .i64 x23]) (h6 : callInf cfg 26 [Value.int .i64 x23, Value.string x1] (List.length H) (H ++ [vo [Value.int .i64 x0a, Value.slice x0ba x0bn x0bc, Value.slice x0ca x0cn x0cc] 25]) = some (Value.int .i64 x25, H ++ [vo [Value.int .i64 x0a, Value.slice x0ba x0bn x0bc, Value.slice x0ca x0cn x0cc] 25])) (h7 : (x25 != 0) = false) (h8 : getCells (H ++ [vo [Value.int .i64 x0a, Value.slice x0ba x0bn x0bc, Value.slice x0ca x0cn x0cc] 25]) (List.length H) [Value.int .i64 x0a, Value.slice x0ba x0bn x0bc, Value.slice x0ca x0cn x0cc].length (0 + 0) 1 = some [Value.int .i64 x30]) (h9 : callInf cfg 26 [Value.int .i64 x30, Value.string x3] (List.length H) (H ++ [vo [Value.int .i64 x0a, Value.slice x0ba x0bn x0bc, Value.slice x0ca x0cn x0cc] 25]) = some (Value.int .i64 x32, H ++ [vo [Value.int .i64 x0a, Value.slice x0ba x0bn x0bc, Value.slice x0ca x0cn x0cc] 25])) (h10 : (x32 != 0) = false) (h11 : callInf cfg 12 [] (List.length H) (H ++ [vo [Value.int .i64 x0a, Value.slice x0ba x0bn x0bc, Value.slice x0ca x0cn x0cc] 25]) = some (Value.bool x36, H ++ [vo [Value.int .i64 x0a, Value.slice x0ba x0bn x0bc, Value.slice x0ca x0cn x0cc] 25])) (h12 : (!x36) = false) (h13 : Fit .i64 (x2.tmod 60 + 60)) (h14 : getCells (H ++ [vo [Value.int .i64 x0a, Value.slice x0ba x0bn x0bc, Value.slice x0ca x0cn x0cc] 25]) (List.length H) [Value.int .i64 x0a, Value.slice x0ba x0bn x0bc, Value.slice x0ca x0cn x0cc].length 0 3 = some [Value.int .i64 x45a, Value.slice x45ba x45bn x45bc, Value.slice x45ca x45cn x45cc]) (h15 : callInf cfg 23 [Value.agg { toList := [Value.int .i64 x45a, Value.slice x45ba x45bn x45bc, Value.slice x45ca x45cn x45cc] }, Value.string x1, Value.int .i64 ((x2.tmod 60 + 60).tmod 60)] (List.length H) (H ++ [vo [Value.int .i64 x0a, Value.slice x0ba x0bn x0bc, Value.slice x0ca x0cn x0cc] 25]) = some (Value.tuple { toList := [Value.slice x48aa x48an x48ac, Value.int .i64 x48b] }, H1)) (h16 : callInf cfg 15 [Value.int .i64 x48b] (List.length H) H1 = some (Value.int .i64 x52, H1)) (h17 : (x52 != 0) = false) (h18 : ¬((↑x48an : Int) > (x2.tmod 60 + 60).tmod 60)) (h19 : lpInf (lpOf cfg a8 0 prot H) ([Value.string x1, Value.int .i64 ((x2.tmod 60 + 60).tmod 60), Value.string x3, Value.pointer (some ⟨List.length H, 0, some [Value.int .i64 x0a, Value.slice x0ba x0bn x0bc, Value.slice x0ca x0cn x0cc].length⟩), Value.slice x48aa x48an x48ac, Value.bool false, Value.int .i64 0], H1) = some (Ex.exit 0, [Value.string z1, Value.int .i64 z2, Value.string z3, Value.pointer (some ⟨z4p, z4o, some z4l⟩), z8, Value.slice z9a z9n z9c, Value.bool z11], H2)) (h20 : getCells H2 z4p z4l z4o 3 = some [Value.int .i64 x126a, Value.slice x126ba x126bn x126bc, Value.slice x126ca x126cn x126cc]) (h21 : callInf cfg 27 [Value.agg { toList := [Value.int .i64 x126a, Value.slice x126ba x126bn x126bc, Value.slice x126ca x126cn x126cc] }, Value.string z3] (List.length H) H2 = some (Value.tuple { toList := [Value.bool x128a, Value.int .i64 x128b] }, H2)) (h22 : callInf cfg 15 [Value.int .i64 x128b] (List.length H) H2 = some (Value.int .i64 x132, H2)) (h23 : (x132 != 0) = false) (h24 : x128a = false) (h25 : (z11 == false) = true) (h26 : getCells H2 z4p z4l z4o 3 = some [Value.int .i64 x171a, Value.slice x171ba x171bn x171bc, Value.slice x171ca x171cn x171cc]) (h27 : callInf cfg 29 [Value.agg { toList := [Value.int .i64 x171a, Value.slice x171ba x171bn x171bc, Value.slice x171ca x171cn x171cc] }, Value.slice z9a z9n z9c, Value.string z1, Value.int .i64 z2] (List.length H) H2 = some (Value.bool x175, H2)) : callInf cfg 8 [.agg #[.int .i64 x0a, .slice x0ba x0bn x0bc, .slice x0ca x0cn x0cc], .string x1, .int .i64 x2, .string x3] prot H = some (Value.bool x175, H) :=
  fn_of2 a8 [.e, .v (.agg #[.int .i64 x18a, .slice x18ba x18bn x18bc, .slice x18ca x18cn x18cc]), .v (.bool x19), .e, .b false, .b false, .v (.int .i64 x23), .b false, .b false, .v (.int .i64 x25), .b false, .e, .b false, .b false, .b false, .v (.int .i64 x30), .b false, .b false, .v (.int .i64 x32), .b false, .e, .b false, .b false, .v (.bool x36), .b false, .e, .b false, .b false, .e, .e, .e, .v (.agg #[.int .i64 x45a, .slice x45ba x45bn x45bc, .slice x45ca x45cn x45cc]), .r (.tuple #[.slice x48aa x48an x48ac, .int .i64 x48b]) H1, .v (.int .i64 x52), .e, .b false, .b false, .e, .b false, .b false, .e, .b false, .b false, .lo (.exit 0, [.string z1, .int .i64 z2, .string z3, .pointer (some ⟨z4p, z4o, some z4l⟩), z8, .slice z9a z9n z9c, .bool z11], H2), .v (.agg #[.int .i64 x126a, .slice x126ba x126bn x126bc, .slice x126ca x126cn x126cc]), .v (.tuple #[.bool x128a, .int .i64 x128b]), .v (.int .i64 x132), .e, .b false, .b false, .b false, .b false, .b false, .b false, .b false, .b false, .b false, .b false, .b false, .b false, .b false, .b false, .b false, .b false, .b false, .e, .b true, .v (.agg #[.int .i64 x171a, .slice x171ba x171bn x171bc, .slice x171ca x171cn x171cc]), .b true, .b true, .b true, .b true, .v (.bool x175), .b true] (ai h1 (ai h2 (ai h3 (ai h4 (ai h4 (ai h5 (ai h4 (ai h4 (ai h6 (ai h4 (ai h4 (ai h7 (ai h7 (ai h8 (ai h7 (ai h7 (ai h9 (ai h7 (ai h7 (ai h10 (ai h11 (ai h10 (ai h10 (ai h12 (ai (show (60 : Int) ≠ 0 by decide) (ai h13 (ai (show (60 : Int) ≠ 0 by decide) (ai h14 (ai h15 (ai h16 (ai h17 (ai h17 (ai h17 (ai h17 (ai h17 (ai (decide_eq_false h18) (ai h19 (ai h20 (ai h21 (ai h22 (ai h23 (ai h24 (ai h24 (ai h24 (ai h24 (ai (Eq.refl false) (ai (Eq.refl false) (ai (Eq.refl false) (ai (Eq.refl false) (ai (Eq.refl false) (ai (Eq.refl false) (ai (Eq.refl false) (ai (Eq.refl false) (ai (Eq.refl false) (ai (Eq.refl false) (ai (Eq.refl false) (ai (Eq.refl false) (ai h25 (ai h26 (ai h25 (ai h25 (ai h25 (ai h25 (ai h27 (ai h25 (Eq.refl ((Value.bool x175, H) : Value × AHeap))))))))))))))))))))))))))))))))))))))))))))))))))))))))))))))))))) (by kernel_rfl) rfl
theorem f8_F_19 {x0a : Int} {x0ba : Option Addr} {x0bn x0bc : Nat} {x0ca : Option Addr} {x0cn x0cc : Nat} {x1 : ByteArray} {x2 : Int} {x3 : ByteArray} {H : AHeap} {prot : Nat} {x18a : Int} {x18ba : Option Addr} {x18bn x18bc : Nat} {x18ca : Option Addr} {x18cn x18cc : Nat} {x19 x39 : Bool} (h1 : [Value.int .i64 x0a, Value.slice x0ba x0bn x0bc, Value.slice x0ca x0cn x0cc].all isCell = true) (h2 : getCells (H ++ [vo [Value.int .i64 x0a, Value.slice x0ba x0bn x0bc, Value.slice x0ca x0cn x0cc] 25]) (List.length H) [Value.int .i64 x0a, Value.slice x0ba x0bn x0bc, Value.slice x0ca x0cn x0cc].length 0 3 = some [Value.int .i64 x18a, Value.slice x18ba x18bn x18bc, Value.slice x18ca x18cn x18cc]) (h3 : callInf cfg 11 [Value.agg { toList := [Value.int .i64 x18a, Value.slice x18ba x18bn x18bc, Value.slice x18ca x18cn x18cc] }] (List.length H) (H ++ [vo [Value.int .i64 x0a, Value.slice x0ba x0bn x0bc, Value.slice x0ca x0cn x0cc] 25]) = some (Value.bool x19, H ++ [vo [Value.int .i64 x0a, Value.slice x0ba x0bn x0bc, Value.slice x0ca x0cn x0cc] 25])) (h4 : (!x19) = true) (h5 : callInf cfg 12 [] (List.length H) (H ++ [vo [Value.int .i64 x0a, Value.slice x0ba x0bn x0bc, Value.slice x0ca x0cn x0cc] 25]) = some (Value.bool x39, H ++ [vo [Value.int .i64 x0a, Value.slice x0ba x0bn x0bc, Value.slice x0ca x0cn x0cc] 25])) : callInf cfg 8 [.agg #[.int .i64 x0a, .slice x0ba x0bn x0bc, .slice x0ca x0cn x0cc], .string x1, .int .i64 x2, .string x3] prot H = some (Value.bool x39, H) :=
  fn_of2 a8 [.e, .v (.agg #[.int .i64 x18a, .slice x18ba x18bn x18bc, .slice x18ca x18cn x18cc]), .v (.bool x19), .e, .b true, .b true, .b true, .b true, .b true, .b true, .b true, .b true, .b true, .b true, .b true, .b true, .b true, .b true, .b true, .b true, .v (.bool x39)] (ai h1 (ai h2 (ai h3 (ai h4 (ai h4 (ai h4 (ai h4 (ai h4 (ai h4 (ai (Eq.refl true) (ai (Eq.refl true) (ai (Eq.refl true) (ai (Eq.refl true) (ai (Eq.refl true) (ai (Eq.refl true) (ai (Eq.refl true) (ai (Eq.refl true) (ai (Eq.refl true) (ai (Eq.refl true) (ai h5 (Eq.refl ((Value.bool x39, H) : Value × AHeap)))))))))))))))))))))) (by kernel_rfl) rfl
theorem f8_L0_4 {x1 : ByteArray} {x2 : Int} {x3 : ByteArray} {x4p x4o x4l : Nat} {x9a : Option Addr} {x9n x9c : Nat} {x11 : Bool} {x12 : Int} {H0 : AHeap} {prot : Nat} {H : AHeap} {x67a : Int} {x67ba : Option Addr} {x67bn x67bc : Nat} {x67ca : Option Addr} {x67cn x67cc x70p x70o x70l : Nat} {x71 : ByteArray} {x72a : Bool} {x72b x76 : Int} {x85p x85o x85l : Nat} {x86 : ByteArray} {x94p x94o x94l : Nat} {x95 : ByteArray} {x96 : Int} {x106p x106o x106l : Nat} {x107 : ByteArray} {x110p x110o x110l : Nat} {x111 : ByteArray} {x112 : Int} (h1 : x12 < (↑x9n : Int)) (h2 : getCells H x4p x4l x4o 3 = some [Value.int .i64 x67a, Value.slice x67ba x67bn x67bc, Value.slice x67ca x67cn x67cc]) (h3 : aindexAddr cfg.P 43 (Value.slice x9a x9n x9c) (Value.int .i64 x12) = some (Value.pointer (some ⟨x70p, x70o, some x70l⟩))) (h4 : getCells H x70p x70l x70o 1 = some [Value.string x71]) (h5 : callInf cfg 27 [Value.agg { toList := [Value.int .i64 x67a, Value.slice x67ba x67bn x67bc, Value.slice x67ca x67cn x67cc] }, Value.string x71] (List.length H0) H = some (Value.tuple { toList := [Value.bool x72a, Value.int .i64 x72b] }, H)) (h6 : callInf cfg 15 [Value.int .i64 x72b] (List.length H0) H = some (Value.int .i64 x76, H)) (h7 : (x76 != 0) = false) (h8 : (!x72a) = false) (h9 : aindexAddr cfg.P 43 (Value.slice x9a x9n x9c) (Value.int .i64 x12) = some (Value.pointer (some ⟨x85p, x85o, some x85l⟩))) (h10 : getCells H x85p x85l x85o 1 = some [Value.string x86]) (h11 : ¬((↑x86.size : Int) > 4096)) (h12 : aindexAddr cfg.P 43 (Value.slice x9a x9n x9c) (Value.int .i64 x12) = some (Value.pointer (some ⟨x94p, x94o, some x94l⟩))) (h13 : getCells H x94p x94l x94o 1 = some [Value.string x95]) (h14 : callInf cfg 28 [Value.string x1, Value.string x95] (List.length H0) H = some (Value.int .i64 x96, H)) (h15 : ¬(x96 > 0)) (h16 : x12 > 0) (h17 : Fit .i64 (x12 - 1)) (h18 : aindexAddr cfg.P 43 (Value.slice x9a x9n x9c) (Value.int .i64 (x12 - 1)) = some (Value.pointer (some ⟨x106p, x106o, some x106l⟩))) (h19 : getCells H x106p x106l x106o 1 = some [Value.string x107]) (h20 : aindexAddr cfg.P 43 (Value.slice x9a x9n x9c) (Value.int .i64 x12) = some (Value.pointer (some ⟨x110p, x110o, some x110l⟩))) (h21 : getCells H x110p x110l x110o 1 = some [Value.string x111]) (h22 : callInf cfg 28 [Value.string x107, Value.string x111] (List.length H0) H = some (Value.int .i64 x112, H)) (h23 : ¬(x112 ≥ 0)) (h24 : x11 = true) (h25 : Fit .i64 (x12 + 1)) : lpOf cfg a8 0 prot H0 ([.string x1, .int .i64 x2, .string x3, .pointer (some ⟨x4p, x4o, some x4l⟩), .slice x9a x9n x9c, .bool x11, .int .i64 x12], H) = some (Sum.inl ([Value.string x1, Value.int .i64 x2, Value.string x3, Value.pointer (some ⟨x4p, x4o, some x4l⟩), Value.slice x9a x9n x9c, Value.bool true, Value.int .i64 (x12 + 1)], H)) :=
  lp_of2 [.e, .e, .b true, .v (.agg #[.int .i64 x67a, .slice x67ba x67bn x67bc, .slice x67ca x67cn x67cc]), .v (.pointer (some ⟨x70p, x70o, some x70l⟩)), .v (.string x71), .v (.tuple #[.bool x72a, .int .i64 x72b]), .v (.int .i64 x76), .e, .b false, .b false, .e, .b false, .b false, .b false, .b false, .v (.pointer (some ⟨x85p, x85o, some x85l⟩)), .b false, .v (.string x86), .b false, .e, .b false, .e, .b false, .b false, .b false, .b false, .b false, .v (.pointer (some ⟨x94p, x94o, some x94l⟩)), .b false, .v (.string x95), .b false, .v (.int .i64 x96), .b false, .e, .b false, .b false, .b false, .e, .b false, .b true, .b true, .b true, .e, .b true, .v (.pointer (some ⟨x106p, x106o, some x106l⟩)), .b true, .v (.string x107), .b true, .b true, .b true, .v (.pointer (some ⟨x110p, x110o, some x110l⟩)), .b true, .v (.string x111), .b true, .v (.int .i64 x112), .b true, .e, .b false, .b true, .b false, .b false, .b true, .b true, .b true, .b true, .b true, .b true, .b true, .e] (ai (decide_eq_true h1) (ai h2 (ai h3 (ai h4 (ai h5 (ai h6 (ai h7 (ai h7 (ai h7 (ai h8 (ai h8 (ai h8 (ai h9 (ai h8 (ai h10 (ai h8 (ai h8 (ai h8 (ai (decide_eq_false h11) (ai (decide_eq_false h11) (ai (decide_eq_false h11) (ai (decide_eq_false h11) (ai h12 (ai (decide_eq_false h11) (ai h13 (ai (decide_eq_false h11) (ai h14 (ai (decide_eq_false h11) (ai (decide_eq_false h11) (ai (decide_eq_false h15) (ai (decide_eq_false h15) (ai (decide_eq_false h15) (ai (decide_eq_true h16) (ai (decide_eq_true h16) (ai (decide_eq_true h16) (ai h17 (ai (decide_eq_true h16) (ai h18 (ai (decide_eq_true h16) (ai h19 (ai (decide_eq_true h16) (ai (decide_eq_true h16) (ai (decide_eq_true h16) (ai h20 (ai (decide_eq_true h16) (ai h21 (ai (decide_eq_true h16) (ai h22 (ai (decide_eq_true h16) (ai (decide_eq_false h15) (ai (decide_eq_true h16) (ai (decide_eq_false h15) (ai (decide_eq_false h23) (ai h24 (ai h24 (ai h24 (ai h24 (ai h24 (ai h24 (ai h24 (ai h25 (Eq.refl (Sum.inl ([Value.string x1, Value.int .i64 x2, Value.string x3, Value.pointer (some ⟨x4p, x4o, some x4l⟩), Value.slice x9a x9n x9c, Value.bool true, Value.int .i64 (x12 + 1)], H) : LS ⊕ LO))))))))))))))))))))))))))))))))))))))))))))))))))))))))))))))) (by kernel_rfl)
theorem f8_L0_5 {x1 : ByteArray} {x2 : Int} {x3 : ByteArray} {x4p x4o x4l : Nat} {x9a : Option Addr} {x9n x9c : Nat} {x11 : Bool} {x12 : Int} {H0 : AHeap} {prot : Nat} {H : AHeap} {x67a : Int} {x67ba : Option Addr} {x67bn x67bc : Nat} {x67ca : Option Addr} {x67cn x67cc x70p x70o x70l : Nat} {x71 : ByteArray} {x72a : Bool} {x72b x76 : Int} {x85p x85o x85l : Nat} {x86 : ByteArray} {x94p x94o x94l : Nat} {x95 : ByteArray} {x96 : Int} {x106p x106o x106l : Nat} {x107 : ByteArray} {x110p x110o x110l : Nat} {x111 : ByteArray} {x112 : Int} {x120p x120o x120l : Nat} {x121 : ByteArray} (h1 : x12 < (↑x9n : Int)) (h2 : getCells H x4p x4l x4o 3 = some [Value.int .i64 x67a, Value.slice x67ba x67bn x67bc, Value.slice x67ca x67cn x67cc]) (h3 : aindexAddr cfg.P 43 (Value.slice x9a x9n x9c) (Value.int .i64 x12) = some (Value.pointer (some ⟨x70p, x70o, some x70l⟩))) (h4 : getCells H x70p x70l x70o 1 = some [Value.string x71]) (h5 : callInf cfg 27 [Value.agg { toList := [Value.int .i64 x67a, Value.slice x67ba x67bn x67bc, Value.slice x67ca x67cn x67cc] }, Value.string x71] (List.length H0) H = some (Value.tuple { toList := [Value.bool x72a, Value.int .i64 x72b] }, H)) (h6 : callInf cfg 15 [Value.int .i64 x72b] (List.length H0) H = some (Value.int .i64 x76, H)) (h7 : (x76 != 0) = false) (h8 : (!x72a) = false) (h9 : aindexAddr cfg.P 43 (Value.slice x9a x9n x9c) (Value.int .i64 x12) = some (Value.pointer (some ⟨x85p, x85o, some x85l⟩))) (h10 : getCells H x85p x85l x85o 1 = some [Value.string x86]) (h11 : ¬((↑x86.size : Int) > 4096)) (h12 : aindexAddr cfg.P 43 (Value.slice x9a x9n x9c) (Value.int .i64 x12) = some (Value.pointer (some ⟨x94p, x94o, some x94l⟩))) (h13 : getCells H x94p x94l x94o 1 = some [Value.string x95]) (h14 : callInf cfg 28 [Value.string x1, Value.string x95] (List.length H0) H = some (Value.int .i64 x96, H)) (h15 : ¬(x96 > 0)) (h16 : x12 > 0) (h17 : Fit .i64 (x12 - 1)) (h18 : aindexAddr cfg.P 43 (Value.slice x9a x9n x9c) (Value.int .i64 (x12 - 1)) = some (Value.pointer (some ⟨x106p, x106o, some x106l⟩))) (h19 : getCells H x106p x106l x106o 1 = some [Value.string x107]) (h20 : aindexAddr cfg.P 43 (Value.slice x9a x9n x9c) (Value.int .i64 x12) = some (Value.pointer (some ⟨x110p, x110o, some x110l⟩))) (h21 : getCells H x110p x110l x110o 1 = some [Value.string x111]) (h22 : callInf cfg 28 [Value.string x107, Value.string x111] (List.length H0) H = some (Value.int .i64 x112, H)) (h23 : ¬(x112 ≥ 0)) (h24 : x11 = false) (h25 : aindexAddr cfg.P 43 (Value.slice x9a x9n x9c) (Value.int .i64 x12) = some (Value.pointer (some ⟨x120p, x120o, some x120l⟩))) (h26 : getCells H x120p x120l x120o 1 = some [Value.string x121]) (h27 : Fit .i64 (x12 + 1)) : lpOf cfg a8 0 prot H0 ([.string x1, .int .i64 x2, .string x3, .pointer (some ⟨x4p, x4o, some x4l⟩), .slice x9a x9n x9c, .bool x11, .int .i64 x12], H) = some (Sum.inl ([Value.string x1, Value.int .i64 x2, Value.string x3, Value.pointer (some ⟨x4p, x4o, some x4l⟩), Value.slice x9a x9n x9c, Value.bool (x121.toList == x3.toList), Value.int .i64 (x12 + 1)], H)) :=
  lp_of2 [.e, .e, .b true, .v (.agg #[.int .i64 x67a, .slice x67ba x67bn x67bc, .slice x67ca x67cn x67cc]), .v (.pointer (some ⟨x70p, x70o, some x70l⟩)), .v (.string x71), .v (.tuple #[.bool x72a, .int .i64 x72b]), .v (.int .i64 x76), .e, .b false, .b false, .e, .b false, .b false, .b false, .b false, .v (.pointer (some ⟨x85p, x85o, some x85l⟩)), .b false, .v (.string x86), .b false, .e, .b false, .e, .b false, .b false, .b false, .b false, .b false, .v (.pointer (some ⟨x94p, x94o, some x94l⟩)), .b false, .v (.string x95), .b false, .v (.int .i64 x96), .b false, .e, .b false, .b false, .b false, .e, .b false, .b true, .b true, .b true, .e, .b true, .v (.pointer (some ⟨x106p, x106o, some x106l⟩)), .b true, .v (.string x107), .b true, .b true, .b true, .v (.pointer (some ⟨x110p, x110o, some x110l⟩)), .b true, .v (.string x111), .b true, .v (.int .i64 x112), .b true, .e, .b false, .b true, .b false, .b false, .b false, .b false, .b false, .v (.pointer (some ⟨x120p, x120o, some x120l⟩)), .b false, .v (.string x121), .b false, .b false, .e, .b false, .e] (ai (decide_eq_true h1) (ai h2 (ai h3 (ai h4 (ai h5 (ai h6 (ai h7 (ai h7 (ai h7 (ai h8 (ai h8 (ai h8 (ai h9 (ai h8 (ai h10 (ai h8 (ai h8 (ai h8 (ai (decide_eq_false h11) (ai (decide_eq_false h11) (ai (decide_eq_false h11) (ai (decide_eq_false h11) (ai h12 (ai (decide_eq_false h11) (ai h13 (ai (decide_eq_false h11) (ai h14 (ai (decide_eq_false h11) (ai (decide_eq_false h11) (ai (decide_eq_false h15) (ai (decide_eq_false h15) (ai (decide_eq_false h15) (ai (decide_eq_true h16) (ai (decide_eq_true h16) (ai (decide_eq_true h16) (ai h17 (ai (decide_eq_true h16) (ai h18 (ai (decide_eq_true h16) (ai h19 (ai (decide_eq_true h16) (ai (decide_eq_true h16) (ai (decide_eq_true h16) (ai h20 (ai (decide_eq_true h16) (ai h21 (ai (decide_eq_true h16) (ai h22 (ai (decide_eq_true h16) (ai (decide_eq_false h15) (ai (decide_eq_true h16) (ai (decide_eq_false h15) (ai (decide_eq_false h23) (ai h24 (ai h24 (ai h24 (ai h25 (ai h24 (ai h26 (ai h24 (ai h24 (ai h24 (ai h27 (Eq.refl (Sum.inl ([Value.string x1, Value.int .i64 x2, Value.string x3, Value.pointer (some ⟨x4p, x4o, some x4l⟩), Value.slice x9a x9n x9c, Value.bool (x121.toList == x3.toList), Value.int .i64 (x12 + 1)], H) : LS ⊕ LO))))))))))))))))))))))))))))))))))))))))))))))))))))))))))))))))) (by kernel_rfl)
theorem f8_L0_6 {x1 : ByteArray} {x2 : Int} {x3 : ByteArray} {x4p x4o x4l : Nat} {x9a : Option Addr} {x9n x9c : Nat} {x11 : Bool} {x12 : Int} {H0 : AHeap} {prot : Nat} {H : AHeap} {x67a : Int} {x67ba : Option Addr} {x67bn x67bc : Nat} {x67ca : Option Addr} {x67cn x67cc x70p x70o x70l : Nat} {x71 : ByteArray} {x72a : Bool} {x72b x76 : Int} {x85p x85o x85l : Nat} {x86 : ByteArray} {x94p x94o x94l : Nat} {x95 : ByteArray} {x96 : Int} (h1 : x12 < (↑x9n : Int)) (h2 : getCells H x4p x4l x4o 3 = some [Value.int .i64 x67a, Value.slice x67ba x67bn x67bc, Value.slice x67ca x67cn x67cc]) (h3 : aindexAddr cfg.P 43 (Value.slice x9a x9n x9c) (Value.int .i64 x12) = some (Value.pointer (some ⟨x70p, x70o, some x70l⟩))) (h4 : getCells H x70p x70l x70o 1 = some [Value.string x71]) (h5 : callInf cfg 27 [Value.agg { toList := [Value.int .i64 x67a, Value.slice x67ba x67bn x67bc, Value.slice x67ca x67cn x67cc] }, Value.string x71] (List.length H0) H = some (Value.tuple { toList := [Value.bool x72a, Value.int .i64 x72b] }, H)) (h6 : callInf cfg 15 [Value.int .i64 x72b] (List.length H0) H = some (Value.int .i64 x76, H)) (h7 : (x76 != 0) = false) (h8 : (!x72a) = false) (h9 : aindexAddr cfg.P 43 (Value.slice x9a x9n x9c) (Value.int .i64 x12) = some (Value.pointer (some ⟨x85p, x85o, some x85l⟩))) (h10 : getCells H x85p x85l x85o 1 = some [Value.string x86]) (h11 : ¬((↑x86.size : Int) > 4096)) (h12 : aindexAddr cfg.P 43 (Value.slice x9a x9n x9c) (Value.int .i64 x12) = some (Value.pointer (some ⟨x94p, x94o, some x94l⟩))) (h13 : getCells H x94p x94l x94o 1 = some [Value.string x95]) (h14 : callInf cfg 28 [Value.string x1, Value.string x95] (List.length H0) H = some (Value.int .i64 x96, H)) (h15 : ¬(x96 > 0)) (h16 : ¬(x12 > 0)) (h17 : x11 = true) (h18 : Fit .i64 (x12 + 1)) : lpOf cfg a8 0 prot H0 ([.string x1, .int .i64 x2, .string x3, .pointer (some ⟨x4p, x4o, some x4l⟩), .slice x9a x9n x9c, .bool x11, .int .i64 x12], H) = some (Sum.inl ([Value.string x1, Value.int .i64 x2, Value.string x3, Value.pointer (some ⟨x4p, x4o, some x4l⟩), Value.slice x9a x9n x9c, Value.bool true, Value.int .i64 (x12 + 1)], H)) :=
  lp_of2 [.e, .e, .b true, .v (.agg #[.int .i64 x67a, .slice x67ba x67bn x67bc, .slice x67ca x67cn x67cc]), .v (.pointer (some ⟨x70p, x70o, some x70l⟩)), .v (.string x71), .v (.tuple #[.bool x72a, .int .i64 x72b]), .v (.int .i64 x76), .e, .b false, .b false, .e, .b false, .b false, .b false, .b false, .v (.pointer (some ⟨x85p, x85o, some x85l⟩)), .b false, .v (.string x86), .b false, .e, .b false, .e, .b false, .b false, .b false, .b false, .b false, .v (.pointer (some ⟨x94p, x94o, some x94l⟩)), .b false, .v (.string x95), .b false, .v (.int .i64 x96), .b false, .e, .b false, .b false, .b false, .e, .b false, .b false, .b false, .b false, .b false, .b false, .b false, .b false, .b false, .b false, .b false, .b false, .b false, .b false, .b false, .b false, .b true, .b true, .b true, .b true, .b true, .b true, .b true, .e] (ai (decide_eq_true h1) (ai h2 (ai h3 (ai h4 (ai h5 (ai h6 (ai h7 (ai h7 (ai h7 (ai h8 (ai h8 (ai h8 (ai h9 (ai h8 (ai h10 (ai h8 (ai h8 (ai h8 (ai (decide_eq_false h11) (ai (decide_eq_false h11) (ai (decide_eq_false h11) (ai (decide_eq_false h11) (ai h12 (ai (decide_eq_false h11) (ai h13 (ai (decide_eq_false h11) (ai h14 (ai (decide_eq_false h11) (ai (decide_eq_false h11) (ai (decide_eq_false h15) (ai (decide_eq_false h15) (ai (decide_eq_false h15) (ai (decide_eq_false h16) (ai (decide_eq_false h16) (ai (decide_eq_false h16) (ai (decide_eq_false h16) (ai (decide_eq_false h16) (ai (decide_eq_false h16) (ai (decide_eq_false h16) (ai (decide_eq_false h16) (ai (decide_eq_false h16) (ai (decide_eq_false h16) (ai (decide_eq_false h16) (ai (decide_eq_false h15) (ai (decide_eq_false h16) (ai (decide_eq_false h15) (ai (Eq.refl false) (ai h17 (ai h17 (ai h17 (ai h17 (ai h17 (ai h17 (ai h17 (ai h18 (Eq.refl (Sum.inl ([Value.string x1, Value.int .i64 x2, Value.string x3, Value.pointer (some ⟨x4p, x4o, some x4l⟩), Value.slice x9a x9n x9c, Value.bool true, Value.int .i64 (x12 + 1)], H) : LS ⊕ LO))))))))))))))))))))))))))))))))))))))))))))))))))))))))) (by kernel_rfl)
theorem f8_L0_7 {x1 : ByteArray} {x2 : Int} {x3 : ByteArray} {x4p x4o x4l : Nat} {x9a : Option Addr} {x9n x9c : Nat} {x11 : Bool} {x12 : Int} {H0 : AHeap} {prot : Nat} {H : AHeap} {x67a : Int} {x67ba : Option Addr} {x67bn x67bc : Nat} {x67ca : Option Addr} {x67cn x67cc x70p x70o x70l : Nat} {x71 : ByteArray} {x72a : Bool} {x72b x76 : Int} {x85p x85o x85l : Nat} {x86 : ByteArray} {x94p x94o x94l : Nat} {x95 : ByteArray} {x96 : Int} {x120p x120o x120l : Nat} {x121 : ByteArray} (h1 : x12 < (↑x9n : Int)) (h2 : getCells H x4p x4l x4o 3 = some [Value.int .i64 x67a, Value.slice x67ba x67bn x67bc, Value.slice x67ca x67cn x67cc]) (h3 : aindexAddr cfg.P 43 (Value.slice x9a x9n x9c) (Value.int .i64 x12) = some (Value.pointer (some ⟨x70p, x70o, some x70l⟩))) (h4 : getCells H x70p x70l x70o 1 = some [Value.string x71]) (h5 : callInf cfg 27 [Value.agg { toList := [Value.int .i64 x67a, Value.slice x67ba x67bn x67bc, Value.slice x67ca x67cn x67cc] }, Value.string x71] (List.length H0) H = some (Value.tuple { toList := [Value.bool x72a, Value.int .i64 x72b] }, H)) (h6 : callInf cfg 15 [Value.int .i64 x72b] (List.length H0) H = some (Value.int .i64 x76, H)) (h7 : (x76 != 0) = false) (h8 : (!x72a) = false) (h9 : aindexAddr cfg.P 43 (Value.slice x9a x9n x9c) (Value.int .i64 x12) = some (Value.pointer (some ⟨x85p, x85o, some x85l⟩))) (h10 : getCells H x85p x85l x85o 1 = some [Value.string x86]) (h11 : ¬((↑x86.size : Int) > 4096)) (h12 : aindexAddr cfg.P 43 (Value.slice x9a x9n x9c) (Value.int .i64 x12) = some (Value.pointer (some ⟨x94p, x94o, some x94l⟩))) (h13 : getCells H x94p x94l x94o 1 = some [Value.string x95]) (h14 : callInf cfg 28 [Value.string x1, Value.string x95] (List.length H0) H = some (Value.int .i64 x96, H)) (h15 : ¬(x96 > 0)) (h16 : ¬(x12 > 0)) (h17 : x11 = false) (h18 : aindexAddr cfg.P 43 (Value.slice x9a x9n x9c) (Value.int .i64 x12) = some (Value.pointer (some ⟨x120p, x120o, some x120l⟩))) (h19 : getCells H x120p x120l x120o 1 = some [Value.string x121]) (h20 : Fit .i64 (x12 + 1)) : lpOf cfg a8 0 prot H0 ([.string x1, .int .i64 x2, .string x3, .pointer (some ⟨x4p, x4o, some x4l⟩), .slice x9a x9n x9c, .bool x11, .int .i64 x12], H) = some (Sum.inl ([Value.string x1, Value.int .i64 x2, Value.string x3, Value.pointer (some ⟨x4p, x4o, some x4l⟩), Value.slice x9a x9n x9c, Value.bool (x121.toList == x3.toList), Value.int .i64 (x12 + 1)], H)) :=
  lp_of2 [.e, .e, .b true, .v (.agg #[.int .i64 x67a, .slice x67ba x67bn x67bc, .slice x67ca x67cn x67cc]), .v (.pointer (some ⟨x70p, x70o, some x70l⟩)), .v (.string x71), .v (.tuple #[.bool x72a, .int .i64 x72b]), .v (.int .i64 x76), .e, .b false, .b false, .e, .b false, .b false, .b false, .b false, .v (.pointer (some ⟨x85p, x85o, some x85l⟩)), .b false, .v (.string x86), .b false, .e, .b false, .e, .b false, .b false, .b false, .b false, .b false, .v (.pointer (some ⟨x94p, x94o, some x94l⟩)), .b false, .v (.string x95), .b false, .v (.int .i64 x96), .b false, .e, .b false, .b false, .b false, .e, .b false, .b false, .b false, .b false, .b false, .b false, .b false, .b false, .b false, .b false, .b false, .b false, .b false, .b false, .b false, .b false, .b false, .b false, .b false, .v (.pointer (some ⟨x120p, x120o, some x120l⟩)), .b false, .v (.string x121), .b false, .b false, .e, .b false, .e] (ai (decide_eq_true h1) (ai h2 (ai h3 (ai h4 (ai h5 (ai h6 (ai h7 (ai h7 (ai h7 (ai h8 (ai h8 (ai h8 (ai h9 (ai h8 (ai h10 (ai h8 (ai h8 (ai h8 (ai (decide_eq_false h11) (ai (decide_eq_false h11) (ai (decide_eq_false h11) (ai (decide_eq_false h11) (ai h12 (ai (decide_eq_false h11) (ai h13 (ai (decide_eq_false h11) (ai h14 (ai (decide_eq_false h11) (ai (decide_eq_false h11) (ai (decide_eq_false h15) (ai (decide_eq_false h15) (ai (decide_eq_false h15) (ai (decide_eq_false h16) (ai (decide_eq_false h16) (ai (decide_eq_false h16) (ai (decide_eq_false h16) (ai (decide_eq_false h16) (ai (decide_eq_false h16) (ai (decide_eq_false h16) (ai (decide_eq_false h16) (ai (decide_eq_false h16) (ai (decide_eq_false h16) (ai (decide_eq_false h16) (ai (decide_eq_false h15) (ai (decide_eq_false h16) (ai (decide_eq_false h15) (ai (Eq.refl false) (ai h17 (ai h17 (ai h17 (ai h18 (ai h17 (ai h19 (ai h17 (ai h17 (ai h17 (ai h20 (Eq.refl (Sum.inl ([Value.string x1, Value.int .i64 x2, Value.string x3, Value.pointer (some ⟨x4p, x4o, some x4l⟩), Value.slice x9a x9n x9c, Value.bool (x121.toList == x3.toList), Value.int .i64 (x12 + 1)], H) : LS ⊕ LO))))))))))))))))))))))))))))))))))))))))))))))))))))))))))) (by kernel_rfl)
theorem f8_L0_9 {x1 : ByteArray} {x2 : Int} {x3 : ByteArray} {x4p x4o x4l : Nat} {x9a : Option Addr} {x9n x9c : Nat} {x11 : Bool} {x12 : Int} {H0 : AHeap} {prot : Nat} {H : AHeap} (h1 : ¬(x12 < (↑x9n : Int))) : lpOf cfg a8 0 prot H0 ([.string x1, .int .i64 x2, .string x3, .pointer (some ⟨x4p, x4o, some x4l⟩), .slice x9a x9n x9c, .bool x11, .int .i64 x12], H) = some (Sum.inr (Ex.exit 0, [Value.string x1, Value.int .i64 x2, Value.string x3, Value.pointer (some ⟨x4p, x4o, some x4l⟩), Value.tuple { toList := [] }, Value.slice x9a x9n x9c, Value.bool x11], H)) :=
  lp_of2 [.e, .e, .b false] (ai (decide_eq_false h1) (Eq.refl (Sum.inr (Ex.exit 0, [Value.string x1, Value.int .i64 x2, Value.string x3, Value.pointer (some ⟨x4p, x4o, some x4l⟩), Value.tuple { toList := [] }, Value.slice x9a x9n x9c, Value.bool x11], H) : LS ⊕ LO))) (by kernel_rfl)
end Go.Proofs.Ythjkodbinkiifaa.Am23
namespace Go.Proofs.Ythjkodbinkiifaa.Am23
open Go Go.Proofs.Ythjkodbinkiifaa.Am

theorem sl_get {W : List (List Nat)} {i : Nat} (h : i < W.length) : (sl W)[i]? = some (.string (lw W[i])) := by
  rw [sl_at h, List.getD_eq_getElem?_getD, List.getElem?_eq_getElem h]; rfl
/-- The words are looked at. -/
theorem loop8 {k : Nat} {xs : List Int} {bs : List Bool} (hG : Good k xs bs) (h0 : chkG k xs bs = 0) {low la : List Nat} (hlow : ∀ c ∈ low, c < k) (hla : ∀ c ∈ la, c < k) {most : Int} {W : List (List Nat)} (hW : W.length ≤ 1000) (hk : ∀ w ∈ W, (∀ c ∈ w, c < k) ∧ w.length ≤ 4096 ∧ bs.getD (go k xs 0 w) false = true ∧ slx w low = false) (hs : W.Pairwise fun a b => slx a b = true)
    {x vN vA : Value} {H0 H : AHeap} {prot : Nat} (hb : H[H0.length]? = some (bx k vN vA)) (hA : IsA H xs bs vN vA) (hx : Rd H 9 1 x W.length (sl W)) : ∀ (d i : Nat) (t : Bool), i + d = W.length →
    lpInf (lpOf cfg a8 0 prot H0) ([.string (lw low), .int .i64 most, .string (lw la), .pointer (some ⟨H0.length, 0, some 3⟩), x, .bool t, .int .i64 i], H) =
      some (.exit 0, [.string (lw low), .int .i64 most, .string (lw la), .pointer (some ⟨H0.length, 0, some 3⟩), .tuple #[], x, .bool (t || (W.drop i).any fun w => decide (w = la))], H)
  | 0, i, t, hi => by
    rw [List.drop_of_length_le (by omega), List.any_nil, Bool.or_false]
    obtain ⟨_, _, rfl⟩ := hx.len
    exact lp_last (f8_L0_9 (by omega))
  | d + 1, i, t, hi => by
    have hk8 := hG.k8
    have hil : i < W.length := by omega
    have ih := fun t' => loop8 hG h0 hlow hla hW hk hs (most := most) (prot := prot) hb hA hx d (i + 1) t' (by omega)
    obtain ⟨id, L, p1, p2⟩ := rd_at T43 hx (sl_get hil)
    obtain ⟨w1, w2, w3, w4⟩ := hk _ (List.getElem_mem hil)
    have h100 : ∀ u : List Nat, (∀ c ∈ u, c < k) → ∀ c ∈ u, c < 100 := fun u h c hc => by have := h c hc; omega
    have h27 := c27 hG h0 (l := W[i]) w1 (by omega) H0.length H hA
    rw [w3] at h27
    have h28 := c28 (lw low) (lw W[i]) H0.length H
    have ho : ¬ ordV (lw low) (lw W[i]) > 0 := fun h => by
      have := (ord_pos _ _).1 h
      rw [slt_lw (h100 _ w1) (h100 _ hlow), w4] at this
      cases this
    have hany : (t || (W.drop i).any fun w => decide (w = la)) = ((t || decide (W[i] = la)) || (W.drop (i + 1)).any fun w => decide (w = la)) := by
      rw [List.drop_eq_getElem_cons hil, List.any_cons, Bool.or_assoc]
    have hbe : ((lw W[i]).toList == (lw la).toList) = decide (W[i] = la) := by
      by_cases h : W[i] = la
      · rw [h]; simp
      · rw [decide_eq_false h, beq_eq_false_iff_ne]
        exact fun e => h (lw_inj (h100 _ w1) (h100 _ hla) e)
    rw [hany]
    have ih := ih (t || decide (W[i] = la))
    obtain ⟨_, _, _, g3⟩ := fld3 hb
    obtain ⟨aN, cN, rfl⟩ := hA.n.len
    obtain ⟨aA, cA, rfl⟩ := hA.a.len
    have hsz : ¬ (((lw W[i]).size : Int) > 4096) := by rw [lw_size]; omega
    by_cases hi0 : 0 < i
    · obtain ⟨j, rfl⟩ : ∃ j, i = j + 1 := ⟨i - 1, by omega⟩
      obtain ⟨id2, L2, q1, q2⟩ := rd_at T43 hx (sl_get (show j < W.length by omega))
      have ej : (j : Int) = ((j + 1 : Nat) : Int) - 1 := by omega
      rw [ej] at q1
      have h28b := c28 (lw W[j]) (lw W[j + 1]) H0.length H
      have hlt : ¬ ordV (lw W[j]) (lw W[j + 1]) ≥ 0 := by
        have h1 : slx W[j] W[j + 1] = true := List.pairwise_iff_getElem.1 hs j (j + 1) (by omega) hil (by omega)
        have h2 := (hk _ (List.getElem_mem (show j < W.length by omega))).1
        rw [← slt_lw (h100 _ h2) (h100 _ w1), ← ord_slt] at h1
        omega
      obtain ⟨ax, cx, rfl⟩ := hx.len
      cases t with
      | true =>
        rw [Bool.true_or] at ih ⊢
        exact lp_next (f8_L0_4 (by omega) g3 p1 p2 h27 f15_F_0 rfl rfl p1 p2 hsz p1 p2 h28 ho (by omega) (fit64 (by omega) (by omega)) q1 q2 p1 p2 h28b hlt rfl (fit64 (by omega) (by omega))) ih
      | false =>
        rw [Bool.false_or, ← hbe] at ih
        rw [Bool.false_or, ← hbe]
        exact lp_next (f8_L0_5 (by omega) g3 p1 p2 h27 f15_F_0 rfl rfl p1 p2 hsz p1 p2 h28 ho (by omega) (fit64 (by omega) (by omega)) q1 q2 p1 p2 h28b hlt rfl p1 p2 (fit64 (by omega) (by omega))) ih
    · obtain ⟨ax, cx, rfl⟩ := hx.len
      cases t with
      | true =>
        rw [Bool.true_or] at ih ⊢
        exact lp_next (f8_L0_6 (by omega) g3 p1 p2 h27 f15_F_0 rfl rfl p1 p2 hsz p1 p2 h28 ho (by omega) rfl (fit64 (by omega) (by omega))) ih
      | false =>
        rw [Bool.false_or, ← hbe] at ih
        rw [Bool.false_or, ← hbe]
        exact lp_next (f8_L0_7 (by omega) g3 p1 p2 h27 f15_F_0 rfl rfl p1 p2 hsz p1 p2 h28 ho (by omega) rfl p1 p2 (fit64 (by omega) (by omega))) ih

theorem law8 {k : Int} {xs : List Int} {bs : List Bool} {vN vA : Value} (w : ByteArray) (m : Int) (ask : ByteArray) (hw : w.size < 140737488355328) (ha : ask.size < 140737488355328) (prot : Nat) (H : AHeap) (hA : IsA H xs bs vN vA) :
    callInf cfg 8 [av k vN vA, .string w, .int .i64 m, .string ask] prot H = some (.bool true, H) := by
  obtain ⟨HX, hHX⟩ : ∃ HX, HX = H ++ [bx k vN vA] := ⟨_, rfl⟩
  have sX : Stay none H HX := by rw [hHX]; exact Stay.app none H _
  have hgX : HX[H.length]? = some (bx k vN vA) := by rw [hHX]; exact append_get.1
  have hAX := hA.stay sX
  have h11 := c11 (k := k) H.length HX hAX
  have hkn := fun H' => cKnows H.length H'
  obtain ⟨g0, _, _, g3⟩ := fld3 hgX
  have hN := hA.n.len
  have hA' := hA.a.len
  by_cases c1 : chkG k xs bs = 0
  case neg =>
    obtain ⟨aN, cN, rfl⟩ := hN
    obtain ⟨aA, cA, rfl⟩ := hA'
    rw [decide_eq_false c1] at h11
    have hk := hkn HX
    subst hHX
    exact f8_F_19 all3 g3 h11 rfl hk
  rw [decide_eq_true c1] at h11
  obtain ⟨k, rfl, hG⟩ := good_of c1
  have hk8 := hG.k8
  have h26 := c26 hG.k1 hk8 hw H.length HX
  have h26a := c26 hG.k1 hk8 ha H.length HX
  cases hok : okW k w with
  | false =>
    rw [hok, if_neg (by simp)] at h26
    obtain ⟨aN, cN, rfl⟩ := hN
    obtain ⟨aA, cA, rfl⟩ := hA'
    have hk := hkn HX
    subst hHX
    exact f8_F_0 all3 g3 h11 rfl g0 h26 rfl hk
  | true =>
  rw [hok, if_pos rfl] at h26
  cases hoa : okW k ask with
  | false =>
    rw [hoa, if_neg (by simp)] at h26a
    obtain ⟨aN, cN, rfl⟩ := hN
    obtain ⟨aA, cA, rfl⟩ := hA'
    have hk := hkn HX
    subst hHX
    exact f8_F_1 all3 g3 h11 rfl g0 h26 rfl g0 h26a rfl hk
  | true =>
  rw [hoa, if_pos rfl] at h26a
  obtain ⟨hlw, hlk⟩ := letO_ok hok
  obtain ⟨hlwa, hlka⟩ := letO_ok hoa
  have m1 := Int.tmod_lt_of_pos m (show (0 : Int) < 60 by omega)
  have m2 : -60 < m.tmod 60 := Int.lt_tmod_of_pos m (by omega)
  have m3 : 0 ≤ (m.tmod 60 + 60).tmod 60 := Int.tmod_nonneg _ (by omega)
  have m4 := Int.tmod_lt_of_pos (m.tmod 60 + 60) (show (0 : Int) < 60 by omega)
  have hfit : Fit .i64 (m.tmod 60 + 60) := fit64 (by omega) (by omega)
  obtain ⟨most, hmo⟩ : ∃ t : Nat, (m.tmod 60 + 60).tmod 60 = t := ⟨((m.tmod 60 + 60).tmod 60).toNat, by omega⟩
  obtain ⟨X, oX, H1, r1, r2, r3, r4⟩ := c23 (k := (k : Int)) w ((m.tmod 60 + 60).tmod 60) H.length HX hAX
  have hchk : chkW (k : Int) w = 0 := by
    unfold chkW
    rw [if_neg (by have := hG.k1; omega), Int.toNat_natCast, hok, if_pos rfl]
  have hV : wordsV (k : Int) xs bs w ((m.tmod 60 + 60).tmod 60) = (wordsL k (tgt k xs) (accB bs) (letO w) most, 0) := by
    unfold wordsV
    rw [if_neg (by simp [c1]), if_neg (by omega), if_neg (by omega), if_neg (by simp [hchk])]
    rw [hmo]
    simp only [Int.toNat_natCast]
    split
    · unfold wordsL
      rw [show 4097 - (letO w).length = 0 by rw [letO_len]; omega, tailW, List.take_nil]
    · rfl
  rw [hV] at r1 r2
  simp only at r1 r2
  obtain ⟨W, hW⟩ : ∃ W, wordsL k (tgt k xs) (accB bs) (letO w) most = W := ⟨_, rfl⟩
  rw [hW] at r2
  have hsort := tailW_sorted k (tgt k xs) (accB bs) (letO w) (4097 - (letO w).length) (letO w).length
  have hWl : W.length ≤ most := by rw [← hW]; unfold wordsL; rw [List.length_take]; omega
  have hWs : W.Pairwise fun a b => slx a b = true := by rw [← hW]; exact hsort.sublist (List.take_sublist _ _)
  have hmem := fun v => mem_tailW k (tgt k xs) (accB bs) (letO w) v (4097 - (letO w).length) (letO w).length
  have hWk : ∀ v ∈ W, (∀ c ∈ v, c < k) ∧ v.length ≤ 4096 ∧ bs.getD (go k xs 0 v) false = true ∧ slx v (letO w) = false := fun v hv => by
    rw [← hW] at hv
    obtain ⟨q1, q2, q3, q4, q5⟩ := (hmem v).1 (List.mem_of_mem_take hv)
    refine ⟨q3, by omega, by rw [foldl_go] at q4; exact q4, ?_⟩
    unfold slx
    rw [decide_eq_false (by omega), Bool.false_or]
    by_cases he : v.length = (letO w).length
    · rw [q5 he, Bool.and_false]
    · rw [decide_eq_false he, Bool.false_and]
  have hg1 : H1[H.length]? = some (bx k vN vA) := by rw [r3.2 _ (by rw [hHX]; simp) (by simp)]; exact hgX
  have hA1 := hAX.stay r3
  have hl := loop8 hG c1 hlk hlka (most := ((m.tmod 60 + 60).tmod 60)) (by omega) hWk hWs (prot := prot) hg1 hA1 r2.rd W.length 0 false (by omega)
  rw [List.drop_zero, Bool.false_or] at hl
  have h27 := c27 hG c1 (l := letO ask) hlka (by rw [letO_len]; omega) H.length H1 hA1
  have h28 := c28 w ask H.length H1
  have h100 : ∀ u : List Nat, (∀ c ∈ u, c < k) → ∀ c ∈ u, c < 100 := fun u h c hc => by have := h c hc; omega
  have hlen4 : (ask.size : Int) = ((letO ask).length : Int) := by rw [letO_len]
  have h29 := c29 hG c1 (letO w) (W := W) (by omega) (fun v hv => (hWk v hv).2.1) ((m.tmod 60 + 60).tmod 60) (fun h n hp hn => by
    have hrc := row_cnt hG n 0 (by have := hG.n1; omega)
    have hW0 : wordsL k (tgt k xs) (accB bs) [] most = W := by rw [← hW, h]
    have := count_wordsL k (tgt k xs) (accB bs) (most := most) (n := n) (by rw [hW0]; exact hp) (by rw [hW0]; exact hn)
    rw [hW0] at this
    rw [this, ← hrc]
    rfl) H.length H1 hA1 r2.rd
  rw [hlw] at hl h29
  rw [hlwa] at hl h27
  -- what should be there
  have hthere : (W.any fun v => decide (v = letO ask)) = decide (letO ask ∈ W) := by
    rw [Bool.eq_iff_iff, List.any_eq_true, decide_eq_true_eq]
    constructor
    · rintro ⟨v, hv, h⟩
      rw [decide_eq_true_eq] at h
      rw [← h]; exact hv
    · exact fun h => ⟨_, h, by simp⟩
  rw [hthere] at hl
  have hmemT := mem_take hsort most (letO ask)
  rw [show (tailW k (tgt k xs) (accB bs) (letO w) (4097 - (letO w).length) (letO w).length).take most = W from hW] at hmemT
  rw [hmem, foldl_go] at hmemT
  obtain ⟨aN, cN, rfl⟩ := hN
  obtain ⟨aA, cA, rfl⟩ := hA'
  obtain ⟨aX, cX, rfl⟩ := r2.len
  obtain ⟨_, _, _, g31⟩ := fld3 hg1
  have hk := hkn HX
  have hwl : ¬ ((W.length : Int) > (m.tmod 60 + 60).tmod 60) := by rw [hmo]; omega
  have hord : ordV w ask ≤ 0 ↔ slx (letO ask) (letO w) = false := by
    have h := ord_pos w ask
    rw [← hlw, ← hlwa, slt_lw (h100 _ hlka) (h100 _ hlk), hlw, hlwa] at h
    constructor
    · intro h1
      cases h2 : slx (letO ask) (letO w) with
      | false => rfl
      | true => have := h.2 h2; omega
    · intro h1
      by_cases h2 : 0 < ordV w ask
      · have := h.1 h2; rw [this] at h1; cases h1
      · omega
  have hslx : slx (letO ask) (letO w) = false ↔ ((letO w).length ≤ (letO ask).length ∧ ((letO ask).length = (letO w).length → lexLt (letO ask) (letO w) = false)) := by
    unfold slx
    rw [Bool.or_eq_false_iff, Bool.and_eq_false_imp, decide_eq_false_iff_not, decide_eq_true_eq]
    constructor
    · rintro ⟨h1, h2⟩; exact ⟨by omega, h2⟩
    · rintro ⟨h1, h2⟩; exact ⟨by omega, h2⟩
  -- where it is not there
  have no : (letO ask ∉ W) → (decide (letO ask ∈ W) == false) = true := fun h => by rw [decide_eq_false h]; rfl
  cases hacc : bs.getD (go k xs 0 (letO ask)) false with
  | false =>
    rw [hacc] at h27
    have hn : letO ask ∉ W := fun h => by
      have h2 := (hmemT.1 h).1.2.2.2.1
      have h3 : bs.getD (go k xs 0 (letO ask)) false = true := h2
      rw [hacc] at h3; cases h3
    subst hHX
    exact f8_F_15 all3 g3 h11 rfl g0 h26 rfl g0 h26a rfl hk rfl hfit g3 r1 f15_F_0 rfl hwl hl g31 h27 f15_F_0 rfl rfl (no hn) g31 h29
  | true =>
  rw [hacc] at h27
  by_cases h4 : (ask.size : Int) ≤ 4096
  case neg =>
    have hn : letO ask ∉ W := fun h => by
      have h2 := (hmemT.1 h).1.2.1
      have h3 := (hmemT.1 h).1.1
      omega
    subst hHX
    exact f8_F_13 all3 g3 h11 rfl g0 h26 rfl g0 h26a rfl hk rfl hfit g3 r1 f15_F_0 rfl hwl hl g31 h27 f15_F_0 rfl rfl h4 (no hn) g31 h29
  by_cases h5 : ordV w ask ≤ 0
  case neg =>
    have hn : letO ask ∉ W := fun h => by
      obtain ⟨⟨q1, q2, q3, q4, q5⟩, _⟩ := hmemT.1 h
      exact h5 (hord.2 (hslx.2 ⟨q1, q5⟩))
    subst hHX
    exact f8_F_11 all3 g3 h11 rfl g0 h26 rfl g0 h26a rfl hk rfl hfit g3 r1 f15_F_0 rfl hwl hl g31 h27 f15_F_0 rfl rfl h4 h28 h5 (no hn) g31 h29
  obtain ⟨s1, s2⟩ := hslx.1 (hord.1 h5)
  have hin : (letO w).length ≤ (letO ask).length ∧ (letO ask).length < (letO w).length + (4097 - (letO w).length) ∧ (∀ c ∈ letO ask, c < k) ∧ accB bs (go k xs 0 (letO ask)) = true ∧ ((letO ask).length = (letO w).length → lexLt (letO ask) (letO w) = false) :=
    ⟨s1, by rw [hlen4] at h4; omega, hlka, hacc, s2⟩
  by_cases h6 : (W.length : Int) < (m.tmod 60 + 60).tmod 60
  · have hy : letO ask ∈ W := hmemT.2 ⟨hin, .inl (by omega)⟩
    subst hHX
    exact f8_F_5 all3 g3 h11 rfl g0 h26 rfl g0 h26a rfl hk rfl hfit g3 r1 f15_F_0 rfl hwl hl g31 h27 f15_F_0 rfl rfl h4 h28 h5 h6 (by rw [decide_eq_true hy]; rfl) g31 h29
  by_cases h7 : (m.tmod 60 + 60).tmod 60 > 0
  case neg =>
    have hn : letO ask ∉ W := fun h => by
      rcases (hmemT.1 h).2 with h8 | ⟨h8, _⟩
      · omega
      · omega
    subst hHX
    exact f8_F_9 all3 g3 h11 rfl g0 h26 rfl g0 h26a rfl hk rfl hfit g3 r1 f15_F_0 rfl hwl hl g31 h27 f15_F_0 rfl rfl h4 h28 h5 h6 h7 (no hn) g31 h29
  obtain ⟨n, hn⟩ : ∃ n, W.length = n + 1 := ⟨W.length - 1, by omega⟩
  have hr := r2.rd
  have hlast : W.getD (W.length - 1) [] = W[n] := by rw [show W.length - 1 = n by omega, List.getD_eq_getElem?_getD, List.getElem?_eq_getElem (by omega)]; rfl
  rw [hn] at hr
  obtain ⟨id, M, p1, p2⟩ := rd_last T43 hr (sl_get (show n < W.length by omega))
  rw [← hn] at p1
  have h28b := c28 ask (lw W[n]) H.length H1
  have hdec : (decide (letO ask ∈ W) == decide (ordV ask (lw W[n]) ≤ 0)) = true := by
    have hwn := (hWk _ (List.getElem_mem (show n < W.length by omega))).1
    have h := ord_pos ask (lw W[n])
    rw [← hlwa, slt_lw (h100 _ hwn) (h100 _ hlka), hlwa] at h
    rw [beq_iff_eq, decide_eq_decide, hmemT, hlast]
    constructor
    · rintro ⟨_, h8 | ⟨_, h8⟩⟩
      · omega
      · by_cases h9 : 0 < ordV ask (lw W[n])
        · have := h.1 h9; rw [this] at h8; cases h8
        · omega
    · intro h8
      refine ⟨hin, .inr ⟨by omega, ?_⟩⟩
      cases h9 : slx W[n] (letO ask) with
      | false => rfl
      | true => have := h.2 h9; omega
  subst hHX
  exact f8_F_7 all3 g3 h11 rfl g0 h26 rfl g0 h26a rfl hk rfl hfit g3 r1 f15_F_0 rfl hwl hl g31 h27 f15_F_0 rfl rfl h4 h28 h5 h6 h7 (fit64 (by omega) (by omega)) p1 p2 h28b hdec g31 h29
theorem law8r {k : Int} {xs : List Int} {bs : List Bool} {vN vA : Value} (w : ByteArray) (m : Int) (ask : ByteArray) (prot : Nat) (H : AHeap) (hA : IsA H xs bs vN vA) (hw : w.size < 140737488355328) (ha : ask.size < 140737488355328) :
    callInf cfg 8 [av k vN vA, .string w, .int .i64 m, .string ask] prot H = some (.bool true, H) := law8 w m ask hw ha prot H hA
end Go.Proofs.Ythjkodbinkiifaa.Am23
