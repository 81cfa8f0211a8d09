/- A part of the proof of a given statement: Ok24, AmLib, Live24, Known24, P24_23, P24_24, Sp24_Is, AmSlice, P24_33, P24_44, Sp24_Kind, P24_32, P24_39, P24_38, P24_30, Sp24_With, P24_42, P24_34, Sp24_Text, Sp24_Txt, Sp24_Words, Sp24_Of, P24_37, P24_31, P24_40, Sp24_Check, P24_26, P24_28, Sp24_Chk, P24_35, Sp24_Short, Sp24_Sub, Sp24_Bits, P24_21, P24_22, P24_16, P24_20, Sp24_Differ, P24_15, P24_17. No condition. -/
import Derived.Test.YtedfombojnfbiaaPart9
import Derived.KernelRfl
namespace Go.Proofs.Ytedfombojnfbiaa.Am24
open Go Go.Proofs.Ytedfombojnfbiaa.Am
theorem e3 : EntryOK Proofs.Try.prog 3 a3 := entry_mk Proofs.Try.func3 [[0, 1, 6, 7, 9], [0, 1, 9], [0, 1, 7, 9, 15], [0, 1, 9], [0, 1, 7, 9, 15], [0, 1, 7, 9, 15]] false none (by kernel_rfl) (by kernel_rfl)
theorem e4 : EntryOK Proofs.Try.prog 4 a4 := entry_mk Proofs.Try.func4 [[0, 1, 2, 3, 8]] false none (by kernel_rfl) (by kernel_rfl)
theorem e5 : EntryOK Proofs.Try.prog 5 a5 := entry_mk Proofs.Try.func5 [] false none (by kernel_rfl) (by kernel_rfl)
theorem e6 : EntryOK Proofs.Try.prog 6 a6 := entry_mk Proofs.Try.func6 [[0, 1, 2, 3, 4, 5, 12], [0, 1, 2, 3, 12, 15, 16], [0, 1, 2, 3, 12], [12]] false none (by kernel_rfl) (by kernel_rfl)
theorem e7 : EntryOK Proofs.Try.prog 7 a7 := entry_mk Proofs.Try.func7 [[0, 1, 2, 3, 4, 5, 12], [0, 1, 2, 3, 4, 5, 12, 13, 15], [0, 1, 4, 5, 12, 13, 15], [0, 1, 4, 5, 12, 15, 21], [0, 1, 4, 5, 13, 15, 21, 22], [0, 1, 4, 5, 12, 15, 21], [0, 1, 4, 5, 13, 15, 21, 22], [0, 1, 4, 5, 12, 13, 15, 21, 22], [0, 1, 4, 5, 12, 13, 15, 21, 22], [0, 1, 4, 5, 13, 15, 21, 22], [0, 1, 4, 5, 12, 15, 21]] false none (by kernel_rfl) (by kernel_rfl)
theorem e8 : EntryOK Proofs.Try.prog 8 a8 := entry_mk Proofs.Try.func8 [[0, 1, 4, 5]] false none (by kernel_rfl) (by kernel_rfl)
theorem e9 : EntryOK Proofs.Try.prog 9 a9 := entry_mk Proofs.Try.func9 [[0, 1, 4, 5], [4, 5, 7], [9], [7, 9, 10], [9], [7, 9, 10], [7, 9, 10]] false none (by kernel_rfl) (by kernel_rfl)
theorem e10 : EntryOK Proofs.Try.prog 10 a10 := entry_mk Proofs.Try.func10 [[0, 1, 2, 6, 7], [0, 1, 2, 6, 7, 9, 10]] false none (by kernel_rfl) (by kernel_rfl)
theorem e11 : EntryOK Proofs.Try.prog 11 a11 := entry_mk Proofs.Try.func11 [[0, 1, 2, 6, 7], [2, 6, 7, 9], [9, 11], [2, 9, 11, 12], [9, 11], [2, 9, 11, 12], [2, 9, 11, 12]] false none (by kernel_rfl) (by kernel_rfl)
theorem e12 : EntryOK Proofs.Try.prog 12 a12 := entry_mk Proofs.Try.func12 [[0, 1, 4], [4], [0, 1, 5], [4], [0, 1, 5], [0, 1, 4, 5], [0, 1, 4, 5]] false none (by kernel_rfl) (by kernel_rfl)
theorem e13 : EntryOK Proofs.Try.prog 13 a13 := entry_mk Proofs.Try.func13 [] false none (by kernel_rfl) (by kernel_rfl)
theorem e14 : EntryOK Proofs.Try.prog 14 b14 := entry_mk Proofs.Try.func14 [] false none (by kernel_rfl) (by kernel_rfl)
theorem e14m : EntryOK Proofs.Try.prog 14 a14 := e14
theorem e15 : EntryOK Proofs.Try.prog 15 a15 := entry_mk Proofs.Try.func15 [] false none (by kernel_rfl) (by kernel_rfl)
theorem e16 : EntryOK Proofs.Try.prog 16 a16 := entry_mk Proofs.Try.func16 [] false none (by kernel_rfl) (by kernel_rfl)
theorem e17 : EntryOK Proofs.Try.prog 17 a17 := entry_mk Proofs.Try.func17 [[5], [0, 1, 5, 6], [5], [0, 1, 5, 6], [0, 1, 5, 6]] false none (by kernel_rfl) (by kernel_rfl)
theorem e18 : EntryOK Proofs.Try.prog 18 a18 := entry_mk Proofs.Try.func18 [[0, 1, 2, 6, 7], [10], [0, 9, 10, 27, 28], [10], [0, 9, 10, 27, 28], [0, 9, 10, 27, 28], [0, 9, 10, 27, 28]] false none (by kernel_rfl) (by kernel_rfl)
theorem e19 : EntryOK Proofs.Try.prog 19 a19 := entry_mk Proofs.Try.func19 [[0, 1, 2, 6, 7], [9], [1, 9, 10, 11], [9], [1, 9, 10, 11], [1, 9, 10, 11], [1, 9, 10, 11]] false none (by kernel_rfl) (by kernel_rfl)
theorem e20 : EntryOK Proofs.Try.prog 20 a20 := entry_mk Proofs.Try.func20 [] false none (by kernel_rfl) (by kernel_rfl)
theorem e21 : EntryOK Proofs.Try.prog 21 a21 := entry_mk Proofs.Try.func21 [[0, 1, 2, 3, 8, 9, 10], [8, 9, 10], [0, 12, 13, 35, 36], [8, 9, 10], [0, 12, 13, 35, 36], [0, 8, 9, 10, 12, 13, 35, 36], [0, 8, 9, 10, 12, 13, 35, 36]] false none (by kernel_rfl) (by kernel_rfl)
theorem e22 : EntryOK Proofs.Try.prog 22 a22 := entry_mk Proofs.Try.func22 [[0, 1, 2, 3, 8, 9, 10], [8, 9, 10], [2, 3, 12, 13], [8, 9, 10], [2, 3, 12, 13], [2, 3, 8, 9, 10, 12, 13], [2, 3, 8, 9, 10, 12, 13]] false none (by kernel_rfl) (by kernel_rfl)
theorem e23 : EntryOK Proofs.Try.prog 23 a23 := entry_mk Proofs.Try.func23 [[0, 5], [0, 1, 5, 6], [0, 5], [0, 1, 5, 6], [0, 1, 5, 6], [0, 1, 5, 6]] false none (by kernel_rfl) (by kernel_rfl)
theorem e24 : EntryOK Proofs.Try.prog 24 a24 := entry_mk Proofs.Try.func24 [[0, 5], [0, 1, 5, 6], [0, 5], [0, 1, 5, 6], [0, 1, 5, 6], [0, 1, 5, 6]] false none (by kernel_rfl) (by kernel_rfl)
theorem e25 : EntryOK Proofs.Try.prog 25 a25 := entry_mk Proofs.Try.func25 [[0, 1, 4], [4]] false none (by kernel_rfl) (by kernel_rfl)
theorem e26 : EntryOK Proofs.Try.prog 26 a26 := entry_mk Proofs.Try.func26 [[0, 1, 2, 6], [0, 2, 6], [6], [0, 22, 23, 24], [6], [0, 22, 23, 24], [0, 6, 22, 23, 24], [0, 6, 22, 23, 24]] false none (by kernel_rfl) (by kernel_rfl)
theorem e27 : EntryOK Proofs.Try.prog 27 a27 := entry_mk Proofs.Try.func27 [[4, 5, 6, 7], [0, 1, 4, 5, 6, 8, 9], [4, 5, 6, 7], [0, 1, 4, 5, 6, 8, 9], [0, 1, 4, 5, 6, 7, 8, 9], [0, 1, 4, 5, 6, 7, 8, 9], [0, 1, 4, 5, 6, 8, 9, 26, 27], [0, 1, 4, 5, 6, 7, 8, 9], [0, 1, 4, 5, 6, 8, 9, 26, 27], [0, 1, 4, 5, 6, 7, 8, 9, 26, 27], [0, 1, 4, 5, 6, 7, 8, 9, 12, 26, 27], [0, 1, 4, 5, 6, 7, 8, 9, 10, 11, 26, 27]] false none (by kernel_rfl) (by kernel_rfl)
theorem e28 : EntryOK Proofs.Try.prog 28 a28 := entry_mk Proofs.Try.func28 [[0, 2, 3, 9], [0, 3, 9], [9]] false none (by kernel_rfl) (by kernel_rfl)
theorem e29 : EntryOK Proofs.Try.prog 29 a29 := entry_mk Proofs.Try.func29 [[4, 5, 7], [0, 6, 7, 8], [4, 5, 7], [0, 6, 7, 8], [0, 4, 5, 6, 7, 8], [0, 4, 5, 6, 7, 8], [0, 6, 7, 8, 9], [0, 4, 5, 6, 7, 8], [0, 6, 7, 8, 9], [0, 4, 5, 6, 7, 8, 9], [0, 6, 7, 8, 9, 10, 11, 12], [0, 6, 7, 8, 9, 10, 11, 12], [0, 6, 7, 8, 9, 10, 11, 12], [0, 6, 7, 8, 9, 10, 11, 12], [0, 6, 7, 8, 9, 10, 11, 12], [0, 4, 5, 6, 7, 8, 9, 12], [0, 4, 5, 6, 7, 8, 9, 10, 11, 12]] false none (by kernel_rfl) (by kernel_rfl)
theorem e30 : EntryOK Proofs.Try.prog 30 a30 := entry_mk Proofs.Try.func30 [[6, 7], [0, 1, 2, 6, 7, 11, 12], [6, 7], [0, 1, 2, 6, 7, 11, 12], [0, 1, 2, 6, 7, 11, 12]] false none (by kernel_rfl) (by kernel_rfl)
theorem e31 : EntryOK Proofs.Try.prog 31 a31 := entry_mk Proofs.Try.func31 [[0, 1, 4], [4], [0, 1, 6], [4], [0, 1, 6], [0, 1, 4, 6], [0, 1, 4, 6]] false none (by kernel_rfl) (by kernel_rfl)
theorem e32 : EntryOK Proofs.Try.prog 32 a32 := entry_mk Proofs.Try.func32 [[5], [0, 5, 6, 7, 8], [5], [0, 5, 6, 7, 8], [0, 5, 6, 7, 8]] false none (by kernel_rfl) (by kernel_rfl)
theorem e33 : EntryOK Proofs.Try.prog 33 a33 := entry_mk Proofs.Try.func33 [] false none (by kernel_rfl) (by kernel_rfl)
theorem e34 : EntryOK Proofs.Try.prog 34 a34 := entry_mk Proofs.Try.func34 [[5], [0, 1, 5], [5], [0, 1, 5], [0, 1, 5]] false none (by kernel_rfl) (by kernel_rfl)
theorem e35 : EntryOK Proofs.Try.prog 35 a35 := entry_mk Proofs.Try.func35 [[5], [0, 1, 5, 6], [5], [0, 1, 5, 6], [0, 1, 5, 6], [0, 1, 5, 6], [0, 1, 5, 6], [0, 1, 5, 6, 7], [0, 1, 5, 6], [0, 1, 5, 6, 7], [0, 1, 5, 6, 7]] false none (by kernel_rfl) (by kernel_rfl)
theorem e36 : EntryOK Proofs.Try.prog 36 a36 := entry_mk Proofs.Try.func36 [] false none (by kernel_rfl) (by kernel_rfl)
theorem e37 : EntryOK Proofs.Try.prog 37 a37 := entry_mk Proofs.Try.func37 [[0, 1, 4], [4], [0, 14], [4], [0, 14, 15], [0, 4, 14], [0, 4, 14]] false none (by kernel_rfl) (by kernel_rfl)
theorem e38 : EntryOK Proofs.Try.prog 38 a38 := entry_mk Proofs.Try.func38 [] false none (by kernel_rfl) (by kernel_rfl)
theorem e39 : EntryOK Proofs.Try.prog 39 a39 := entry_mk Proofs.Try.func39 [[8, 9], [1, 3, 4, 8, 9, 14, 15], [8, 9], [1, 3, 4, 8, 9, 14, 15], [1, 3, 4, 8, 9, 14, 15], [1, 3, 4, 8, 9, 14, 15]] false none (by kernel_rfl) (by kernel_rfl)
theorem e40 : EntryOK Proofs.Try.prog 40 a40 := entry_mk Proofs.Try.func40 [[2]] false none (by kernel_rfl) (by kernel_rfl)
theorem e41 : EntryOK Proofs.Try.prog 41 a41 := entry_mk Proofs.Try.func41 [[5], [0, 1, 5, 6], [5], [0, 1, 5, 6], [0, 1, 5, 6], [0, 1, 5, 6]] false none (by kernel_rfl) (by kernel_rfl)
theorem e42 : EntryOK Proofs.Try.prog 42 a42 := entry_mk Proofs.Try.func42 [[], [0, 2, 3], [], [0, 2, 3], [0, 2, 3]] true none (by kernel_rfl) (by kernel_rfl)
theorem e43 : EntryOK Proofs.Try.prog 43 a43 := entry_mk Proofs.Try.func43 [] false none (by kernel_rfl) (by kernel_rfl)
theorem e44 : EntryOK Proofs.Try.prog 44 a44 := entry_mk Proofs.Try.func44 [] true none (by kernel_rfl) (by kernel_rfl)
theorem tabOK : TabOK Proofs.Try.prog tab := tab_cons e3 <| tab_cons e4 <| tab_cons e5 <| tab_cons e6 <| tab_cons e7 <| tab_cons e8 <| tab_cons e9 <| tab_cons e10 <| tab_cons e11 <| tab_cons e12 <| tab_cons e13 <| tab_cons e14m <| tab_cons e15 <| tab_cons e16 <| tab_cons e17 <| tab_cons e18 <| tab_cons e19 <| tab_cons e20 <| tab_cons e21 <| tab_cons e22 <| tab_cons e23 <| tab_cons e24 <| tab_cons e25 <| tab_cons e26 <| tab_cons e27 <| tab_cons e28 <| tab_cons e29 <| tab_cons e30 <| tab_cons e31 <| tab_cons e32 <| tab_cons e33 <| tab_cons e34 <| tab_cons e35 <| tab_cons e36 <| tab_cons e37 <| tab_cons e38 <| tab_cons e39 <| tab_cons e40 <| tab_cons e41 <| tab_cons e42 <| tab_cons e43 <| tab_cons e44 <| tab_nil _
end Go.Proofs.Ytedfombojnfbiaa.Am24
namespace Go.Proofs.Ytedfombojnfbiaa.Am
open Go

theorem fit64 {n : Int} (h1 : -9223372036854775808 ≤ n) (h2 : n ≤ 9223372036854775807) : Fit .i64 n := by
  unfold Fit
  simp only [IntKind.wrap]
  show (if (true && decide (n % (18446744073709551616 : Int) ≥ (9223372036854775808 : Int))) = true then n % (18446744073709551616 : Int) - 18446744073709551616 else n % (18446744073709551616 : Int)) = n
  by_cases h0 : 0 ≤ n
  · have hm : n % (18446744073709551616 : Int) = n := Int.emod_eq_of_lt h0 (by omega)
    rw [hm, if_neg (by simp; omega)]
  · have hm : n % (18446744073709551616 : Int) = n + 18446744073709551616 := by omega
    rw [hm, if_pos (by simp; omega)]
    omega
theorem fit32 {n : Int} (h1 : -2147483648 ≤ n) (h2 : n ≤ 2147483647) : Fit .i32 n := by
  unfold Fit
  simp only [IntKind.wrap]
  show (if (true && decide (n % (4294967296 : Int) ≥ (2147483648 : Int))) = true then n % (4294967296 : Int) - 4294967296 else n % (4294967296 : Int)) = n
  by_cases h0 : 0 ≤ n
  · have hm : n % (4294967296 : Int) = n := Int.emod_eq_of_lt h0 (by omega)
    rw [hm, if_neg (by simp; omega)]
  · have hm : n % (4294967296 : Int) = n + 4294967296 := by omega
    rw [hm, if_pos (by simp; omega)]
    omega

/-- One more round. -/
theorem lp_next {b : LS → Option (LS ⊕ LO)} {s s' : LS} {r : LO} (h : b s = some (.inl s')) (k : lpInf b s' = some r) : lpInf b s = some r := by
  rw [lpInf_eq, h]
  exact k
theorem lp_last {b : LS → Option (LS ⊕ LO)} {s : LS} {r : LO} (h : b s = some (.inr r)) : lpInf b s = some r := by
  rw [lpInf_eq, h]
  rfl
end Go.Proofs.Ytedfombojnfbiaa.Am
namespace Go.Proofs.Ytedfombojnfbiaa.Am24
open Go Go.Proofs.Ytedfombojnfbiaa.Am
theorem live_known : callInf cfg0 14 [] 0 [] = some (.bool true, []) := callInf_of (n := 60) (d := 12) (by kernel_rfl)
end Go.Proofs.Ytedfombojnfbiaa.Am24
namespace Go.Proofs.Ytedfombojnfbiaa.Am24
open Go Go.Proofs.Ytedfombojnfbiaa.Am
theorem mixed : Proofs.Try.prog.follows .mixedOrders = true := by kernel_rfl
theorem run45 (a b : ByteArray) (w : World) : (callFunc 45 #[.string a, .string b]).run Proofs.Try.prog w = .ok (.value (.int .i64 (Extern.BytealgCompare.cmp a b))) w := by kernel_rfl
theorem extOK : ExtSound Proofs.Try.prog ext := fun g e args v w h he => by
  unfold ext at h
  split at h
  · cases h
    dsimp only at he
    split at he
    · cases he
      exact run45 _ _ w
    · cases he
  · cases h
theorem codeOK : CodeOK cfg := codeOK_known (k := 14) (a := a14) (b := b14) (v := .bool true) mixed tabOK e14 rfl (by kernel_rfl) extOK rfl rfl rfl live_known
end Go.Proofs.Ytedfombojnfbiaa.Am24
set_option linter.unusedVariables false
open Go Go.Proofs.Ytedfombojnfbiaa.Am
namespace Go.Proofs.Ytedfombojnfbiaa.Am24
theorem f23_F_0 (x0 : ByteArray) (x1 : ByteArray) (H : AHeap) (prot : Nat) (z0 : ByteArray) (z5 : Int) (H1 : AHeap) (h1 : lpInf (lpOf cfg a23 0 prot H) ([Value.string x0, Value.string x1, Value.int IntKind.i64 0, Value.int IntKind.i64 0], H) = some (Ex.exit 0, [Value.string z0, Value.int IntKind.i64 z5], H1)) : callInf cfg 23 [.string x0, .string x1] prot H = some (Value.bool (z5 == (↑z0.size : Int)), H) :=
  fn_of a23 [.lo (.exit 0, [.string z0, .int .i64 z5], H1), .e, .e] (fun e => (lpInf (lpOf cfg a23 0 prot H) ([Value.string x0, Value.string x1, Value.int IntKind.i64 0, Value.int IntKind.i64 0], H) = some (Ex.exit 0, [Value.string z0, Value.int IntKind.i64 z5], H1)) ∧ e) (by kernel_rfl) ⟨h1, rfl⟩ rfl
theorem f23_L0_0 (x0 : ByteArray) (x1 : ByteArray) (x5 : Int) (x6 : Int) (H0 : AHeap) (prot : Nat) (H : AHeap) (h1 : x6 < (↑x1.size : Int)) (h2 : x5 < (↑x0.size : Int)) (h3 : 0 ≤ x6) (h4 : 0 ≤ x5) (h5 : ((↑(x1.get! x6.toNat).toNat : Int) == (↑(x0.get! x5.toNat).toNat : Int)) = true) (h6 : Fit IntKind.i64 (x5 + 1)) (h7 : Fit IntKind.i64 (x6 + 1)) : lpOf cfg a23 0 prot H0 ([.string x0, .string x1, .int .i64 x5, .int .i64 x6], H) = some (Sum.inl ([Value.string x0, Value.string x1, Value.int IntKind.i64 (x5 + 1), Value.int IntKind.i64 (x6 + 1)], H)) :=
  lp_of [.e, .e, .b true, .b true, .b true, .e, .b true, .e, .b true, .b true, .e, .e, .e, .b true, .e, .e] (fun e => (decide (x6 < (↑x1.size : Int)) = true) ∧ (decide (x6 < (↑x1.size : Int)) = true) ∧ (decide (x6 < (↑x1.size : Int)) = true) ∧ (decide (x6 < (↑x1.size : Int)) = true) ∧ (decide (x6 < (↑x1.size : Int)) = true) ∧ (decide (x5 < (↑x0.size : Int)) = true) ∧ (0 ≤ x6) ∧ (x6 < (↑x1.size : Int)) ∧ (0 ≤ x5) ∧ (x5 < (↑x0.size : Int)) ∧ (((↑(x1.get! x6.toNat).toNat : Int) == (↑(x0.get! x5.toNat).toNat : Int)) = true) ∧ (Fit IntKind.i64 (x5 + 1)) ∧ (Fit IntKind.i64 (x6 + 1)) ∧ e) (by kernel_rfl) ⟨decide_eq_true h1, decide_eq_true h1, decide_eq_true h1, decide_eq_true h1, decide_eq_true h1, decide_eq_true h2, h3, h1, h4, h2, h5, h6, h7, rfl⟩
theorem f23_L0_1 (x0 : ByteArray) (x1 : ByteArray) (x5 : Int) (x6 : Int) (H0 : AHeap) (prot : Nat) (H : AHeap) (h1 : x6 < (↑x1.size : Int)) (h2 : x5 < (↑x0.size : Int)) (h3 : 0 ≤ x6) (h4 : 0 ≤ x5) (h5 : ((↑(x1.get! x6.toNat).toNat : Int) == (↑(x0.get! x5.toNat).toNat : Int)) = false) (h6 : Fit IntKind.i64 (x6 + 1)) : lpOf cfg a23 0 prot H0 ([.string x0, .string x1, .int .i64 x5, .int .i64 x6], H) = some (Sum.inl ([Value.string x0, Value.string x1, Value.int IntKind.i64 x5, Value.int IntKind.i64 (x6 + 1)], H)) :=
  lp_of [.e, .e, .b true, .b true, .b true, .e, .b true, .e, .b true, .b true, .e, .e, .e, .b false, .e] (fun e => (decide (x6 < (↑x1.size : Int)) = true) ∧ (decide (x6 < (↑x1.size : Int)) = true) ∧ (decide (x6 < (↑x1.size : Int)) = true) ∧ (decide (x6 < (↑x1.size : Int)) = true) ∧ (decide (x6 < (↑x1.size : Int)) = true) ∧ (decide (x5 < (↑x0.size : Int)) = true) ∧ (0 ≤ x6) ∧ (x6 < (↑x1.size : Int)) ∧ (0 ≤ x5) ∧ (x5 < (↑x0.size : Int)) ∧ (((↑(x1.get! x6.toNat).toNat : Int) == (↑(x0.get! x5.toNat).toNat : Int)) = false) ∧ (Fit IntKind.i64 (x6 + 1)) ∧ e) (by kernel_rfl) ⟨decide_eq_true h1, decide_eq_true h1, decide_eq_true h1, decide_eq_true h1, decide_eq_true h1, decide_eq_true h2, h3, h1, h4, h2, h5, h6, rfl⟩
theorem f23_L0_2 (x0 : ByteArray) (x1 : ByteArray) (x5 : Int) (x6 : Int) (H0 : AHeap) (prot : Nat) (H : AHeap) (h1 : x6 < (↑x1.size : Int)) (h2 : ¬(x5 < (↑x0.size : Int))) : lpOf cfg a23 0 prot H0 ([.string x0, .string x1, .int .i64 x5, .int .i64 x6], H) = some (Sum.inr (Ex.exit 0, [Value.string x0, Value.int IntKind.i64 x5], H)) :=
  lp_of [.e, .e, .b true, .b true, .b true, .e, .b true, .e, .b true, .b false] (fun e => (decide (x6 < (↑x1.size : Int)) = true) ∧ (decide (x6 < (↑x1.size : Int)) = true) ∧ (decide (x6 < (↑x1.size : Int)) = true) ∧ (decide (x6 < (↑x1.size : Int)) = true) ∧ (decide (x6 < (↑x1.size : Int)) = true) ∧ (decide (x5 < (↑x0.size : Int)) = false) ∧ e) (by kernel_rfl) ⟨decide_eq_true h1, decide_eq_true h1, decide_eq_true h1, decide_eq_true h1, decide_eq_true h1, decide_eq_false h2, rfl⟩
theorem f23_L0_3 (x0 : ByteArray) (x1 : ByteArray) (x5 : Int) (x6 : Int) (H0 : AHeap) (prot : Nat) (H : AHeap) (h1 : ¬(x6 < (↑x1.size : Int))) : lpOf cfg a23 0 prot H0 ([.string x0, .string x1, .int .i64 x5, .int .i64 x6], H) = some (Sum.inr (Ex.exit 0, [Value.string x0, Value.int IntKind.i64 x5], H)) :=
  lp_of [.e, .e, .b false, .b false, .b false, .b false, .b false, .b false] (fun e => (decide (x6 < (↑x1.size : Int)) = false) ∧ (decide (x6 < (↑x1.size : Int)) = false) ∧ (decide (x6 < (↑x1.size : Int)) = false) ∧ (decide (x6 < (↑x1.size : Int)) = false) ∧ (decide (x6 < (↑x1.size : Int)) = false) ∧ (false = false) ∧ e) (by kernel_rfl) ⟨decide_eq_false h1, decide_eq_false h1, decide_eq_false h1, decide_eq_false h1, decide_eq_false h1, rfl, rfl⟩
end Go.Proofs.Ytedfombojnfbiaa.Am24
set_option linter.unusedVariables false
open Go Go.Proofs.Ytedfombojnfbiaa.Am
namespace Go.Proofs.Ytedfombojnfbiaa.Am24
theorem f24_F_0 (x0 : ByteArray) (x1 : ByteArray) (H : AHeap) (prot : Nat) (z0 : ByteArray) (z5 : Int) (H1 : AHeap) (h1 : lpInf (lpOf cfg a24 0 prot H) ([Value.string x0, Value.string x1, Value.int IntKind.i64 0, Value.int IntKind.i64 0], H) = some (Ex.exit 0, [Value.string z0, Value.int IntKind.i64 z5], H1)) : callInf cfg 24 [.string x0, .string x1] prot H = some (Value.bool (z5 == (↑z0.size : Int)), H) :=
  fn_of a24 [.lo (.exit 0, [.string z0, .int .i64 z5], H1), .e, .e] (fun e => (lpInf (lpOf cfg a24 0 prot H) ([Value.string x0, Value.string x1, Value.int IntKind.i64 0, Value.int IntKind.i64 0], H) = some (Ex.exit 0, [Value.string z0, Value.int IntKind.i64 z5], H1)) ∧ e) (by kernel_rfl) ⟨h1, rfl⟩ rfl
theorem f24_L0_0 (x0 : ByteArray) (x1 : ByteArray) (x5 : Int) (x6 : Int) (H0 : AHeap) (prot : Nat) (H : AHeap) (h1 : x6 < (↑x1.size : Int)) (h2 : x5 < (↑x0.size : Int)) (h3 : 0 ≤ x6) (h4 : 0 ≤ x5) (h5 : ((↑(x1.get! x6.toNat).toNat : Int) == (↑(x0.get! x5.toNat).toNat : Int)) = true) (h6 : Fit IntKind.i64 (x5 + 1)) (h7 : Fit IntKind.i64 (x6 + 1)) : lpOf cfg a24 0 prot H0 ([.string x0, .string x1, .int .i64 x5, .int .i64 x6], H) = some (Sum.inl ([Value.string x0, Value.string x1, Value.int IntKind.i64 (x5 + 1), Value.int IntKind.i64 (x6 + 1)], H)) :=
  lp_of [.e, .e, .b true, .b true, .b true, .e, .b true, .e, .b true, .b true, .e, .e, .e, .b true, .e, .e] (fun e => (decide (x6 < (↑x1.size : Int)) = true) ∧ (decide (x6 < (↑x1.size : Int)) = true) ∧ (decide (x6 < (↑x1.size : Int)) = true) ∧ (decide (x6 < (↑x1.size : Int)) = true) ∧ (decide (x6 < (↑x1.size : Int)) = true) ∧ (decide (x5 < (↑x0.size : Int)) = true) ∧ (0 ≤ x6) ∧ (x6 < (↑x1.size : Int)) ∧ (0 ≤ x5) ∧ (x5 < (↑x0.size : Int)) ∧ (((↑(x1.get! x6.toNat).toNat : Int) == (↑(x0.get! x5.toNat).toNat : Int)) = true) ∧ (Fit IntKind.i64 (x5 + 1)) ∧ (Fit IntKind.i64 (x6 + 1)) ∧ e) (by kernel_rfl) ⟨decide_eq_true h1, decide_eq_true h1, decide_eq_true h1, decide_eq_true h1, decide_eq_true h1, decide_eq_true h2, h3, h1, h4, h2, h5, h6, h7, rfl⟩
theorem f24_L0_1 (x0 : ByteArray) (x1 : ByteArray) (x5 : Int) (x6 : Int) (H0 : AHeap) (prot : Nat) (H : AHeap) (h1 : x6 < (↑x1.size : Int)) (h2 : x5 < (↑x0.size : Int)) (h3 : 0 ≤ x6) (h4 : 0 ≤ x5) (h5 : ((↑(x1.get! x6.toNat).toNat : Int) == (↑(x0.get! x5.toNat).toNat : Int)) = false) (h6 : Fit IntKind.i64 (x6 + 1)) : lpOf cfg a24 0 prot H0 ([.string x0, .string x1, .int .i64 x5, .int .i64 x6], H) = some (Sum.inl ([Value.string x0, Value.string x1, Value.int IntKind.i64 x5, Value.int IntKind.i64 (x6 + 1)], H)) :=
  lp_of [.e, .e, .b true, .b true, .b true, .e, .b true, .e, .b true, .b true, .e, .e, .e, .b false, .e] (fun e => (decide (x6 < (↑x1.size : Int)) = true) ∧ (decide (x6 < (↑x1.size : Int)) = true) ∧ (decide (x6 < (↑x1.size : Int)) = true) ∧ (decide (x6 < (↑x1.size : Int)) = true) ∧ (decide (x6 < (↑x1.size : Int)) = true) ∧ (decide (x5 < (↑x0.size : Int)) = true) ∧ (0 ≤ x6) ∧ (x6 < (↑x1.size : Int)) ∧ (0 ≤ x5) ∧ (x5 < (↑x0.size : Int)) ∧ (((↑(x1.get! x6.toNat).toNat : Int) == (↑(x0.get! x5.toNat).toNat : Int)) = false) ∧ (Fit IntKind.i64 (x6 + 1)) ∧ e) (by kernel_rfl) ⟨decide_eq_true h1, decide_eq_true h1, decide_eq_true h1, decide_eq_true h1, decide_eq_true h1, decide_eq_true h2, h3, h1, h4, h2, h5, h6, rfl⟩
theorem f24_L0_2 (x0 : ByteArray) (x1 : ByteArray) (x5 : Int) (x6 : Int) (H0 : AHeap) (prot : Nat) (H : AHeap) (h1 : x6 < (↑x1.size : Int)) (h2 : ¬(x5 < (↑x0.size : Int))) : lpOf cfg a24 0 prot H0 ([.string x0, .string x1, .int .i64 x5, .int .i64 x6], H) = some (Sum.inr (Ex.exit 0, [Value.string x0, Value.int IntKind.i64 x5], H)) :=
  lp_of [.e, .e, .b true, .b true, .b true, .e, .b true, .e, .b true, .b false] (fun e => (decide (x6 < (↑x1.size : Int)) = true) ∧ (decide (x6 < (↑x1.size : Int)) = true) ∧ (decide (x6 < (↑x1.size : Int)) = true) ∧ (decide (x6 < (↑x1.size : Int)) = true) ∧ (decide (x6 < (↑x1.size : Int)) = true) ∧ (decide (x5 < (↑x0.size : Int)) = false) ∧ e) (by kernel_rfl) ⟨decide_eq_true h1, decide_eq_true h1, decide_eq_true h1, decide_eq_true h1, decide_eq_true h1, decide_eq_false h2, rfl⟩
theorem f24_L0_3 (x0 : ByteArray) (x1 : ByteArray) (x5 : Int) (x6 : Int) (H0 : AHeap) (prot : Nat) (H : AHeap) (h1 : ¬(x6 < (↑x1.size : Int))) : lpOf cfg a24 0 prot H0 ([.string x0, .string x1, .int .i64 x5, .int .i64 x6], H) = some (Sum.inr (Ex.exit 0, [Value.string x0, Value.int IntKind.i64 x5], H)) :=
  lp_of [.e, .e, .b false, .b false, .b false, .b false, .b false, .b false] (fun e => (decide (x6 < (↑x1.size : Int)) = false) ∧ (decide (x6 < (↑x1.size : Int)) = false) ∧ (decide (x6 < (↑x1.size : Int)) = false) ∧ (decide (x6 < (↑x1.size : Int)) = false) ∧ (decide (x6 < (↑x1.size : Int)) = false) ∧ (false = false) ∧ e) (by kernel_rfl) ⟨decide_eq_false h1, decide_eq_false h1, decide_eq_false h1, decide_eq_false h1, decide_eq_false h1, rfl, rfl⟩
end Go.Proofs.Ytedfombojnfbiaa.Am24
namespace Go.Proofs.Ytedfombojnfbiaa.Am24
open Go Go.Proofs.Ytedfombojnfbiaa.Am

/-- How far the letters of u are met in w: n letters of w from k on are left, i letters of u are met. -/
def adv (u w : ByteArray) : Nat → Nat → Nat → Nat
  | 0, i, _ => i
  | n + 1, i, k => if i < u.size then (if w.get! k = u.get! i then adv u w n (i + 1) (k + 1) else adv u w n i (k + 1)) else i

theorem adv_le (u w : ByteArray) : ∀ n i k, i ≤ u.size → adv u w n i k ≤ u.size
  | 0, i, k, h => h
  | n + 1, i, k, h => by
    simp only [adv]
    split
    · split
      · exact adv_le u w n _ _ (by omega)
      · exact adv_le u w n _ _ h
    · exact h

theorem byte_ne {a b : UInt8} (h : ¬ a = b) : ((a.toNat : Int) == (b.toNat : Int)) = false := by
  simp only [beq_eq_false_iff_ne, ne_eq]
  intro e
  exact h (UInt8.toNat_inj.1 (by omega))

def isP (u w : ByteArray) : Bool := adv u w w.size 0 0 == u.size

theorem loop23 (u w : ByteArray) (hw : w.size < 9223372036854775807) (H0 H : AHeap) (prot : Nat) : ∀ n i k : Nat, k + n = w.size → i ≤ u.size →  u.size < 9223372036854775807 →
    lpInf (lpOf cfg a23 0 prot H0) ([.string u, .string w, .int .i64 i, .int .i64 k], H) = some (.exit 0, [.string u, .int .i64 (adv u w n i k)], H)
  | 0, i, k, hk, hi, _ => lp_last (f23_L0_3 u w i k H0 prot H (by omega))
  | n + 1, i, k, hk, hi, hu => by
    simp only [adv]
    by_cases h1 : i < u.size
    · rw [if_pos h1]
      by_cases h2 : w.get! k = u.get! i
      · rw [if_pos h2]
        refine lp_next (f23_L0_0 u w i k H0 prot H (by omega) (by omega) (by omega) (by omega) (by simp [h2]) (fit64 (by omega) (by omega)) (fit64 (by omega) (by omega))) ?_
        exact loop23 u w hw H0 H prot n (i + 1) (k + 1) (by omega) (by omega) hu
      · rw [if_neg h2]
        refine lp_next (f23_L0_1 u w i k H0 prot H (by omega) (by omega) (by omega) (by omega) (by simpa using byte_ne h2) (fit64 (by omega) (by omega))) ?_
        exact loop23 u w hw H0 H prot n i (k + 1) (by omega) hi hu
    · rw [if_neg h1]
      exact lp_last (f23_L0_2 u w i k H0 prot H (by omega) (by omega))

theorem c23 (u w : ByteArray) (hu : u.size < 9223372036854775807) (hw : w.size < 9223372036854775807) (prot : Nat) (H : AHeap) : callInf cfg 23 [.string u, .string w] prot H = some (.bool (isP u w), H) := by
  have := f23_F_0 u w H prot u _ H (loop23 u w hw H H prot w.size 0 0 (by omega) (by omega) hu)
  rw [this]
  have hb : ((adv u w w.size 0 0 : Int) == (u.size : Int)) = isP u w := by
    unfold isP
    rw [Bool.eq_iff_iff]
    simp only [beq_iff_eq]
    omega
  rw [hb]

theorem loop24 (u w : ByteArray) (hw : w.size < 9223372036854775807) (H0 H : AHeap) (prot : Nat) : ∀ n i k : Nat, k + n = w.size → i ≤ u.size →  u.size < 9223372036854775807 →
    lpInf (lpOf cfg a24 0 prot H0) ([.string u, .string w, .int .i64 i, .int .i64 k], H) = some (.exit 0, [.string u, .int .i64 (adv u w n i k)], H)
  | 0, i, k, hk, hi, _ => lp_last (f24_L0_3 u w i k H0 prot H (by omega))
  | n + 1, i, k, hk, hi, hu => by
    simp only [adv]
    by_cases h1 : i < u.size
    · rw [if_pos h1]
      by_cases h2 : w.get! k = u.get! i
      · rw [if_pos h2]
        refine lp_next (f24_L0_0 u w i k H0 prot H (by omega) (by omega) (by omega) (by omega) (by simp [h2]) (fit64 (by omega) (by omega)) (fit64 (by omega) (by omega))) ?_
        exact loop24 u w hw H0 H prot n (i + 1) (k + 1) (by omega) (by omega) hu
      · rw [if_neg h2]
        refine lp_next (f24_L0_1 u w i k H0 prot H (by omega) (by omega) (by omega) (by omega) (by simpa using byte_ne h2) (fit64 (by omega) (by omega))) ?_
        exact loop24 u w hw H0 H prot n i (k + 1) (by omega) hi hu
    · rw [if_neg h1]
      exact lp_last (f24_L0_2 u w i k H0 prot H (by omega) (by omega))

theorem c24 (u w : ByteArray) (hu : u.size < 9223372036854775807) (hw : w.size < 9223372036854775807) (prot : Nat) (H : AHeap) : callInf cfg 24 [.string u, .string w] prot H = some (.bool (isP u w), H) := by
  have := f24_F_0 u w H prot u _ H (loop24 u w hw H H prot w.size 0 0 (by omega) (by omega) hu)
  rw [this]
  have hb : ((adv u w w.size 0 0 : Int) == (u.size : Int)) = isP u w := by
    unfold isP
    rw [Bool.eq_iff_iff]
    simp only [beq_iff_eq]
    omega
  rw [hb]
end Go.Proofs.Ytedfombojnfbiaa.Am24
namespace Go.Proofs.Ytedfombojnfbiaa.Am
open Go

/-- The facts on a slice's type that append asks for. -/
structure ElemT (P : Program) (t e : TypeId) (s by_ : Nat) : Prop where
  sl : tslice P t = some e
  sz : tsize P e = some s
  bt : tbytes P e = some by_
  ze : ∃ z, tzero P e = some z ∧ (cellsOf z).length = s
  un : P.underlying t = some (.slice e)
  s0 : 0 < s
  b0 : 0 < by_

/-- A slice that this function has made: nil, or the whole of an object of its own. -/
def Own (H : AHeap) (e s : Nat) (x : Value) (o : Option Nat) (n : Nat) (cs : List Value) : Prop :=
  cs.length = n * s ∧
  match o with
  | none => n = 0 ∧ (x = .slice none 0 0 ∨ x = emptySlice)
  | some id => 0 < n ∧ x = .slice (some ⟨id, 0, some cs.length⟩) n n ∧ ∃ wr, wr ≤ cs.length ∧ H[id]? = some (.cells cs e wr .row)

/-- All but one object stay. -/
def Stay (o : Option Nat) (H H' : AHeap) : Prop := H.length ≤ H'.length ∧ ∀ q, q < H.length → o ≠ some q → H'[q]? = H[q]?
theorem Stay.refl (o : Option Nat) (H : AHeap) : Stay o H H := ⟨Nat.le_refl _, fun _ _ _ => rfl⟩
theorem Stay.trans {o : Option Nat} {a b c : AHeap} (h : Stay o a b) (k : Stay o b c) : Stay o a c := ⟨Nat.le_trans h.1 k.1, fun q hq ho => (k.2 q (Nat.lt_of_lt_of_le hq h.1) ho).trans (h.2 q hq ho)⟩
theorem Stay.app (o : Option Nat) (H l : AHeap) : Stay o H (H ++ l) := ⟨by simp, fun _ hq _ => List.getElem?_append_left hq⟩

theorem Stay.over {o : Option Nat} {H0 H H' : AHeap} (h : Stay none H0 H) (k : Stay o H H') (ho : ∀ id, o = some id → H0.length ≤ id) : Stay none H0 H' := by
  refine ⟨Nat.le_trans h.1 k.1, fun q hq _ => ?_⟩
  rw [k.2 q (Nat.lt_of_lt_of_le hq h.1) (fun e => by have := ho q e; omega)]
  exact h.2 q hq (by simp)

theorem Own.stay {H H' : AHeap} {e s : Nat} {x : Value} {o o' : Option Nat} {n : Nat} {cs : List Value} (h : Own H e s x o n cs) (k : Stay o' H H') (hne : ∀ id, o = some id → o' ≠ some id) : Own H' e s x o n cs := by
  refine ⟨h.1, ?_⟩
  have h2 := h.2
  cases o with
  | none => exact h2
  | some id =>
    obtain ⟨a, b, wr, c, d⟩ := h2
    exact ⟨a, b, wr, c, by rw [k.2 id (List.getElem?_eq_some_iff.1 d).1 (hne id rfl)]; exact d⟩

theorem Own.len {H : AHeap} {e s : Nat} {x : Value} {o : Option Nat} {n : Nat} {cs : List Value} (h : Own H e s x o n cs) : ∃ a c, x = .slice a n c := by
  have h2 := h.2
  cases o with
  | none =>
    obtain ⟨rfl, rfl | rfl⟩ := h2
    · exact ⟨_, _, rfl⟩
    · exact ⟨_, _, rfl⟩
  | some id => exact ⟨_, _, h2.2.1⟩

/-- One element more: what is appended lies in a new row at the heap's end. -/
theorem own_append {P : Program} {t e s by_ : Nat} (T : ElemT P t e s by_) {H : AHeap} {x : Value} {o : Option Nat} {n : Nat} {cs : List Value} (h : Own H e s x o n cs) {ecs : List Value} (he : ecs.length = s) (hc : ecs.all isCell = true) {prot : Nat} {room : Bool}
    (hp : ∀ id, o = some id → prot ≤ id) (hroom : (n + 1) * by_ ≤ 140737488355328) {L : Nat} (hL : L = s) {el : Nat} (hel : el = ecs.length) :
    ∃ x' o' H', aappend P prot room t t x (.slice (some ⟨H.length, 0, some L⟩) 1 1) (H ++ [.cells ecs e el .row]) = some (x', H') ∧ Own H' e s x' (some o') (n + 1) (cs ++ ecs) ∧ Stay o H H' ∧ (o = some o' ∨ (o = none ∧ H.length ≤ o')) := by
  subst hL; subst hel
  obtain ⟨z, hz, hzl⟩ := T.ze
  have hsrc : srcCells P L t (.slice (some ⟨H.length, 0, some L⟩) 1 1) (H ++ [.cells ecs e ecs.length .row]) = some (1, ecs) := by
    unfold srcCells
    rw [T.un]
    simp only [cellsAt]
    unfold getCells
    rw [append_get.1]
    simp only [Nat.one_mul, Nat.zero_add, he, Nat.le_refl, and_self, if_true, Option.map_some, List.drop_zero]
    rw [List.take_of_length_le (by omega)]
  have hcond : t = t ∧ 0 < L ∧ 0 < by_ ∧ (cellsOf z).length = L := ⟨rfl, T.s0, T.b0, hzl⟩
  have hcond2 : ecs.length = 1 * L ∧ ecs.all isCell = true := ⟨by omega, hc⟩
  have h2 := h.2
  have hlen := h.1
  cases o with
  | none =>
    obtain ⟨rfl, hx⟩ := h2
    have hcs : cs = [] := List.eq_nil_of_length_eq_zero (by rw [hlen]; simp)
    subst hcs
    have hres : ∀ y, y = Value.slice none 0 0 ∨ y = emptySlice → aappend P prot room t t y (.slice (some ⟨H.length, 0, some L⟩) 1 1) (H ++ [.cells ecs e ecs.length .row]) =
        some (sliceTo (H ++ [.cells ecs e ecs.length .row]) (1 * L) 1, newObj (H ++ [.cells ecs e ecs.length .row]) ecs e) := by
      intro y hy
      unfold aappend
      rw [T.sl, Option.bind_some, T.sz, Option.bind_some, T.bt, Option.bind_some, hz, Option.bind_some, if_pos hcond, hsrc, Option.bind_some]
      dsimp only
      rw [if_pos hcond2]
      rcases hy with rfl | rfl
      · simp only [Nat.one_ne_zero, if_false]
        rw [if_pos (by omega)]
      · simp only [emptySlice, Nat.one_ne_zero, if_false]
        rw [if_pos (by omega)]
    refine ⟨_, (H ++ [AObj.cells ecs e ecs.length .row]).length, _, hres x hx, ⟨by simp [he], by omega, ?_, ecs.length, by simp, ?_⟩, ?_, .inr ⟨rfl, by simp⟩⟩
    · simp [sliceTo, he]
    · simp only [List.nil_append, newObj]
      exact append_get.1
    · exact (Stay.app none H _).trans (Stay.app none _ _)
  | some id =>
    obtain ⟨hn, rfl, wr, hwr, hH⟩ := h2
    have hlt := (List.getElem?_eq_some_iff.1 hH).1
    have hH' : (H ++ [AObj.cells ecs e ecs.length .row])[id]? = some (.cells cs e wr .row) := by rw [List.getElem?_append_left hlt]; exact hH
    refine ⟨.slice (some ⟨id, 0, some ((n + 1) * L)⟩) (n + 1) (n + 1), id, (H ++ [AObj.cells ecs e ecs.length .row]).set id (.cells (cs ++ ecs) e wr .row), ?_, ⟨by simp [hlen, he, Nat.add_mul], by omega, ?_, wr, by simp; omega, ?_⟩, ?_, .inl rfl⟩
    · unfold aappend
      rw [T.sl, Option.bind_some, T.sz, Option.bind_some, T.bt, Option.bind_some, hz, Option.bind_some, if_pos hcond, hsrc, Option.bind_some]
      dsimp only
      rw [if_pos hcond2]
      simp only [Nat.one_ne_zero, if_false]
      rw [if_neg (by omega), hH']
      simp only [OMode.isRow, true_and, and_true]
      rw [if_pos ⟨hp id rfl, by omega, hroom⟩]
    · simp [hlen, he, Nat.add_mul]
    · rw [List.getElem?_set_self (by simp; omega)]
    · refine ⟨by simp, fun q hq hne => ?_⟩
      rw [List.getElem?_set_ne (fun e => hne (by rw [e])), List.getElem?_append_left hq]

/-- An element is read. -/
theorem own_at {P : Program} {t e by_ : Nat} (T : ElemT P t e 1 by_) {H : AHeap} {x : Value} {o : Option Nat} {n : Nat} {cs : List Value} (h : Own H e 1 x o n cs) {i : Nat} {v : Value} (hv : cs[i]? = some v) :
    ∃ id, o = some id ∧ aindexAddr P t x (.int .i64 i) = some (.pointer (some ⟨id, i, some cs.length⟩)) ∧ getCells H id cs.length i 1 = some [v] := by
  have hi := (List.getElem?_eq_some_iff.1 hv).1
  have hlen := h.1
  have h2 := h.2
  cases o with
  | none => obtain ⟨rfl, _⟩ := h2; simp at hlen; rw [hlen] at hi; simp at hi
  | some id =>
    obtain ⟨hn, rfl, wr, hwr, hH⟩ := h2
    refine ⟨id, rfl, ?_, ?_⟩
    · unfold aindexAddr
      rw [T.un]
      simp only [T.sz, Option.bind_some]
      rw [if_pos (by omega)]
      simp
    · unfold getCells
      rw [hH]
      simp only
      rw [if_pos ⟨hwr, Nat.le_refl _, by omega⟩, List.drop_eq_getElem_cons hi]
      rw [List.getElem?_eq_getElem hi] at hv
      simp only [List.take_succ_cons, List.take_zero, Option.some.inj hv]

/-- A row that has just been made. -/
theorem own_new {H : AHeap} {e s n : Nat} {cs : List Value} (hl : cs.length = n * s) (hn : 0 < n) {L m : Nat} (hL : L = cs.length) (hm : m = cs.length) : Own (H ++ [.cells cs e m .row]) e s (.slice (some ⟨H.length, 0, some L⟩) n n) (some H.length) n cs := by
  subst hL; subst hm
  exact ⟨hl, hn, rfl, cs.length, Nat.le_refl _, append_get.1⟩
theorem own_nil {H : AHeap} {e s : Nat} : Own H e s (.slice none 0 0) none 0 [] := ⟨by simp, rfl, .inl rfl⟩

/-- A row that is handed back. -/
theorem gc_own {H H1 : AHeap} {e s n id : Nat} {x : Value} {cs : List Value} (h : Own H1 e s x (some id) n cs) (hid : H.length ≤ id) (hp : cs.all plain0 = true) :
    ∃ H', gc H [x] H1 = (.slice (some ⟨H.length, 0, some cs.length⟩) n n, H') ∧ Own H' e s (.slice (some ⟨H.length, 0, some cs.length⟩) n n) (some H.length) n cs ∧ Stay none H H' := by
  obtain ⟨hl, hn, rfl, wr, hwr, hH⟩ := h
  refine ⟨H ++ [.cells cs e wr .row], ?_, ⟨hl, hn, rfl, wr, hwr, append_get.1⟩, Stay.app none H _⟩
  unfold gc
  simp only [gcHeap]
  simp only [sliceIds, noDup, List.contains_nil, Bool.not_false, Bool.and_self, if_true, keepAll, keep1]
  rw [if_neg (by omega), hH]
  simp only
  rw [if_pos ⟨hp, trivial⟩]
  simp [tupled]

theorem gc_row {H H1 : AHeap} {e s n : Nat} {x : Value} {o : Option Nat} {cs : List Value} (h : Own H1 e s x o n cs) (hid : ∀ id, o = some id → H.length ≤ id) (hp : cs.all plain0 = true) {ps : List Value} (hps : ps.all plain1 = true) :
    ∃ x' o' H', gc H (x :: ps) H1 = (tupled (x' :: ps), H') ∧ Own H' e s x' o' n cs ∧ Stay none H H' ∧ (∀ id, o' = some id → H.length ≤ id) ∧ (o = none → o' = none) := by
  have h2 := h.2
  cases o with
  | none =>
    obtain ⟨rfl, hx⟩ := h2
    refine ⟨x, none, H, ?_, ⟨h.1, rfl, hx⟩, Stay.refl _ _, fun id h => (by cases h), fun _ => rfl⟩
    rcases hx with rfl | rfl
    · exact gc_plain (by simp [plain1, plain0, hps])
    · unfold gc
      simp only [gcHeap]
      have e1 : sliceIds (emptySlice :: ps) = sliceIds ps := rfl
      rw [e1, sliceIds_plain ps hps]
      simp only [noDup, if_true, keepAll]
      have e2 : keep1 H.length H1 emptySlice [] = some (emptySlice, []) := rfl
      rw [e2, Option.bind_some, keepAll_plain ps [] hps]
      simp
  | some id =>
    obtain ⟨hn, rfl, wr, hwr, hH⟩ := h2
    refine ⟨.slice (some ⟨H.length, 0, some cs.length⟩) n n, some H.length, H ++ [.cells cs e wr .row], ?_, ⟨h.1, hn, rfl, wr, hwr, append_get.1⟩, Stay.app none H _, fun id h => (by cases h; exact Nat.le_refl _), fun h => (by cases h)⟩
    have hge := hid id rfl
    unfold gc
    simp only [gcHeap]
    simp only [sliceIds, sliceIds_plain ps hps, noDup, List.contains_nil, Bool.not_false, Bool.and_self, if_true, keepAll, keep1]
    rw [if_neg (by omega), hH]
    simp only
    rw [if_pos ⟨hp, trivial⟩, Option.bind_some, keepAll_plain ps _ hps]
    simp

/-- The same, with a bound on where it lies. -/
theorem own_app {P : Program} {t e s by_ : Nat} (T : ElemT P t e s by_) {H : AHeap} {x : Value} {o : Option Nat} {n : Nat} {cs : List Value} (h : Own H e s x o n cs) {ecs : List Value} (he : ecs.length = s) (hc : ecs.all isCell = true) {prot : Nat} {room : Bool}
    (hp : ∀ id, o = some id → prot ≤ id) (hB : prot ≤ H.length) (hroom : (n + 1) * by_ ≤ 140737488355328) {L : Nat} (hL : L = s) {el : Nat} (hel : el = ecs.length) :
    ∃ a' c' o' H', aappend P prot room t t x (.slice (some ⟨H.length, 0, some L⟩) 1 1) (H ++ [.cells ecs e el .row]) = some (.slice a' (n + 1) c', H') ∧ Own H' e s (.slice a' (n + 1) c') (some o') (n + 1) (cs ++ ecs) ∧ Stay o H H' ∧ prot ≤ o' ∧ (o = none → H.length ≤ o') ∧ (∀ id, o = some id → o' = id) := by
  obtain ⟨x', o', H', h1, h2, h3, h4⟩ := own_append T h he hc (prot := prot) (room := room) hp hroom hL hel
  obtain ⟨a', c', rfl⟩ := h2.len
  refine ⟨a', c', o', H', h1, h2, h3, ?_, ?_, ?_⟩
  · rcases h4 with h4 | ⟨_, h4⟩
    · exact hp _ h4
    · exact Nat.le_trans hB h4
  · intro ho
    rcases h4 with h4 | ⟨_, h4⟩
    · rw [ho] at h4; cases h4
    · exact h4
  · intro id ho
    rcases h4 with h4 | ⟨h4, _⟩
    · rw [ho] at h4; cases h4; rfl
    · rw [ho] at h4; cases h4

/-- An element of more cells is read. -/
theorem own_atS {P : Program} {t e s by_ : Nat} (T : ElemT P t e s by_) {H : AHeap} {x : Value} {o : Option Nat} {n : Nat} {cs : List Value} (h : Own H e s x o n cs) {i : Nat} (hi : i < n) :
    ∃ id, o = some id ∧ aindexAddr P t x (.int .i64 i) = some (.pointer (some ⟨id, i * s, some cs.length⟩)) ∧ (∀ j m, j + m ≤ s → getCells H id cs.length (i * s + j) m = some ((cs.drop (i * s + j)).take m)) := by
  have hlen := h.1
  have h2 := h.2
  cases o with
  | none => obtain ⟨rfl, _⟩ := h2; omega
  | some id =>
    obtain ⟨hn, rfl, wr, hwr, hH⟩ := h2
    refine ⟨id, rfl, ?_, fun j m hj => ?_⟩
    · unfold aindexAddr
      rw [T.un]
      simp only [T.sz, Option.bind_some]
      rw [if_pos (by omega)]
      simp
    · have : (i + 1) * s ≤ n * s := Nat.mul_le_mul (by omega) (Nat.le_refl s)
      rw [Nat.add_mul, Nat.one_mul] at this
      unfold getCells
      rw [hH]
      simp only
      rw [if_pos ⟨hwr, Nat.le_refl _, by omega⟩]
/-- A part of an element is written: the slice is this function's own. -/
theorem own_setS {P : Program} {t e s by_ : Nat} (T : ElemT P t e s by_) {H : AHeap} {x : Value} {o : Option Nat} {n : Nat} {cs : List Value} (h : Own H e s x o n cs) {i j : Nat} (hi : i < n) {vs : List Value} (hj : j + vs.length ≤ s) (hv : vs.all isCell = true) {prot : Nat} (hp : ∀ id, o = some id → prot ≤ id) :
    ∃ id H', o = some id ∧ aindexAddr P t x (.int .i64 i) = some (.pointer (some ⟨id, i * s, some cs.length⟩)) ∧ setCells H prot id cs.length (i * s + j) vs = some H' ∧ Own H' e s x o n (putList cs (i * s + j) vs) ∧ Stay o H H' ∧ H'.length = H.length := by
  have hlen := h.1
  have h2 := h.2
  cases o with
  | none => obtain ⟨rfl, _⟩ := h2; omega
  | some id =>
    obtain ⟨hn, rfl, wr, hwr, hH⟩ := h2
    have hle : (i + 1) * s ≤ n * s := Nat.mul_le_mul (by omega) (Nat.le_refl s)
    rw [Nat.add_mul, Nat.one_mul] at hle
    have h0 : Own H e s (.slice (some ⟨id, 0, some cs.length⟩) n n) (some id) n cs := ⟨hlen, hn, rfl, wr, hwr, hH⟩
    obtain ⟨id2, hid2, ha, _⟩ := own_atS T h0 hi
    cases hid2
    have hpl : (putList cs (i * s + j) vs).length = cs.length := by unfold putList; simp only [List.length_append, List.length_take, List.length_drop]; omega
    refine ⟨id, H.set id (.cells (putList cs (i * s + j) vs) e cs.length .row), rfl, ha, ?_, ⟨by rw [hpl, hlen], hn, by rw [hpl], cs.length, by rw [hpl]; exact Nat.le_refl _, ?_⟩, ?_, by simp⟩
    · unfold setCells
      rw [hH]
      simp only
      rw [if_pos ⟨rfl, hp id rfl, trivial, by omega, hv⟩]
    · exact List.getElem?_set_self (List.getElem?_eq_some_iff.1 hH).1
    · exact ⟨by simp, fun q hq hne => List.getElem?_set_ne (fun e => hne (by rw [e]))⟩
end Go.Proofs.Ytedfombojnfbiaa.Am
set_option linter.unusedVariables false
open Go Go.Proofs.Ytedfombojnfbiaa.Am
namespace Go.Proofs.Ytedfombojnfbiaa.Am24
theorem f33_F_0 (x0p : Nat) (x0o : Nat) (x0l : Nat) (x1 : Int) (H : AHeap) (prot : Nat) (x10 : Int) (h1 : Fit IntKind.i64 (x1.tdiv 64)) (h2 : 0 ≤ x1.tdiv 64) (h3 : x1.tdiv 64 < (↑74 : Int)) (h4 : getCells H x0p x0l (x0o + (x1.tdiv 64).toNat * 1) 1 = some [Value.int IntKind.u64 x10]) (h5 : 0 ≤ x1.tmod 64) : callInf cfg 33 [.pointer (some ⟨x0p, x0o, some x0l⟩), .int .i64 x1] prot H = some (Value.bool (IntKind.u64.wrap (↑(BitVec.ofInt IntKind.u64.bits (x10.fdiv (2 ^ min (x1.tmod 64).toNat IntKind.u64.bits)) &&& BitVec.ofInt IntKind.u64.bits 1).toNat : Int) != 0), H) :=
  fn_of a33 [.e, .e, .v (.int .u64 x10), .e, .e, .e, .e] (fun e => ((64 : Int) ≠ 0) ∧ (Fit IntKind.i64 (x1.tdiv 64)) ∧ (0 ≤ x1.tdiv 64) ∧ (x1.tdiv 64 < (↑74 : Int)) ∧ (getCells H x0p x0l (x0o + (x1.tdiv 64).toNat * 1) 1 = some [Value.int IntKind.u64 x10]) ∧ ((64 : Int) ≠ 0) ∧ (0 ≤ x1.tmod 64) ∧ e) (by kernel_rfl) ⟨(by decide), h1, h2, h3, h4, (by decide), h5, rfl⟩ rfl
end Go.Proofs.Ytedfombojnfbiaa.Am24
set_option linter.unusedVariables false
open Go Go.Proofs.Ytedfombojnfbiaa.Am
namespace Go.Proofs.Ytedfombojnfbiaa.Am24
theorem f44_F_0 (x0p : Nat) (x0o : Nat) (x0l : Nat) (x1 : Int) (H : AHeap) (prot : Nat) (x9 : Int) (H1 : AHeap) (h1 : Fit IntKind.i64 (x1.tdiv 64)) (h2 : 0 ≤ x1.tdiv 64) (h3 : x1.tdiv 64 < (↑74 : Int)) (h4 : getCells H x0p x0l (x0o + (x1.tdiv 64).toNat * 1) 1 = some [Value.int IntKind.u64 x9]) (h5 : 0 ≤ x1.tmod 64) (h6 : [Value.int IntKind.u64 (IntKind.u64.wrap (↑(BitVec.ofInt IntKind.u64.bits x9 ||| BitVec.ofInt IntKind.u64.bits (IntKind.u64.wrap (1 * 2 ^ min (x1.tmod 64).toNat IntKind.u64.bits))).toNat : Int))].length = 1) (h7 : setCells H prot x0p x0l (x0o + (x1.tdiv 64).toNat * 1) [Value.int IntKind.u64 (IntKind.u64.wrap (↑(BitVec.ofInt IntKind.u64.bits x9 ||| BitVec.ofInt IntKind.u64.bits (IntKind.u64.wrap (1 * 2 ^ min (x1.tmod 64).toNat IntKind.u64.bits))).toNat : Int))] = some H1) : callInf cfg 44 [.pointer (some ⟨x0p, x0o, some x0l⟩), .int .i64 x1] prot H = some (Value.tuple { toList := [] }, H1) :=
  fn_of a44 [.e, .e, .v (.int .u64 x9), .e, .e, .e, .e, .h H1] (fun e => ((64 : Int) ≠ 0) ∧ (Fit IntKind.i64 (x1.tdiv 64)) ∧ (0 ≤ x1.tdiv 64) ∧ (x1.tdiv 64 < (↑74 : Int)) ∧ (getCells H x0p x0l (x0o + (x1.tdiv 64).toNat * 1) 1 = some [Value.int IntKind.u64 x9]) ∧ ((64 : Int) ≠ 0) ∧ (0 ≤ x1.tmod 64) ∧ (0 ≤ x1.tdiv 64) ∧ (x1.tdiv 64 < (↑74 : Int)) ∧ ([Value.int IntKind.u64 (IntKind.u64.wrap (↑(BitVec.ofInt IntKind.u64.bits x9 ||| BitVec.ofInt IntKind.u64.bits (IntKind.u64.wrap (1 * 2 ^ min (x1.tmod 64).toNat IntKind.u64.bits))).toNat : Int))].length = 1) ∧ (setCells H prot x0p x0l (x0o + (x1.tdiv 64).toNat * 1) [Value.int IntKind.u64 (IntKind.u64.wrap (↑(BitVec.ofInt IntKind.u64.bits x9 ||| BitVec.ofInt IntKind.u64.bits (IntKind.u64.wrap (1 * 2 ^ min (x1.tmod 64).toNat IntKind.u64.bits))).toNat : Int))] = some H1) ∧ e) (by kernel_rfl) ⟨(by decide), h1, h2, h3, h4, (by decide), h5, h2, h3, h6, h7, rfl⟩ rfl
end Go.Proofs.Ytedfombojnfbiaa.Am24
namespace Go.Proofs.Ytedfombojnfbiaa.Am24
open Go Go.Proofs.Ytedfombojnfbiaa.Am

/-! ### Words of bits -/
def kc (ws : List Nat) : List Value := ws.map fun (n : Nat) => Value.int .u64 (n : Int)
def bitW (ws : List Nat) (i : Nat) : Bool := (ws.getD (i / 64) 0).testBit (i % 64)
def addW (ws : List Nat) (i : Nat) : List Nat := ws.set (i / 64) (ws.getD (i / 64) 0 ||| 2 ^ (i % 64))
def KOK (ws : List Nat) : Prop := ws.length = 74 ∧ ∀ n ∈ ws, n < 18446744073709551616

theorem kc_len (ws : List Nat) : (kc ws).length = ws.length := by simp [kc]
theorem KOK.lt {ws : List Nat} (h : KOK ws) (j : Nat) : ws.getD j 0 < 18446744073709551616 := by
  rw [List.getD_eq_getElem?_getD]
  by_cases hj : j < ws.length
  · rw [List.getElem?_eq_getElem hj]; exact h.2 _ (List.getElem_mem hj)
  · rw [List.getElem?_eq_none (by omega)]; simp
theorem KOK.add {ws : List Nat} (h : KOK ws) (i : Nat) : KOK (addW ws i) := by
  refine ⟨by simp [addW, h.1], fun n hn => ?_⟩
  unfold addW at hn
  rcases List.mem_or_eq_of_mem_set hn with hn | rfl
  · exact h.2 n hn
  · exact Nat.or_lt_two_pow (n := 64) (h.lt _) (Nat.pow_lt_pow_of_lt (by omega) (by omega))

theorem bit_add {ws : List Nat} (h : KOK ws) {i : Nat} (hi : i < 4736) (j : Nat) : bitW (addW ws i) j = (bitW ws j || decide (j = i)) := by
  unfold bitW addW
  have hl : i / 64 < ws.length := by rw [h.1]; omega
  simp only [List.getD_eq_getElem?_getD, List.getElem?_set]
  by_cases hq : i / 64 = j / 64
  · rw [if_pos hq, if_pos hl]
    simp only [Option.getD_some, Nat.testBit_or, Nat.testBit_two_pow]
    rw [hq]
    congr 1
    rw [decide_eq_decide]
    constructor
    · intro e; omega
    · intro e; omega
  · rw [if_neg hq]
    have : ¬ j = i := fun e => hq (by rw [e])
    simp [this]

theorem u64_wrap (n : Nat) : IntKind.u64.wrap (n : Int) = ((n % 18446744073709551616 : Nat) : Int) := by
  simp only [IntKind.wrap]
  show (if (false && decide ((n : Int) % (18446744073709551616 : Int) ≥ (9223372036854775808 : Int))) = true then (n : Int) % (18446744073709551616 : Int) - 18446744073709551616 else (n : Int) % (18446744073709551616 : Int)) = _
  rw [if_neg (by simp)]
  omega

theorem ofInt_nat (n : Nat) (h : n < 18446744073709551616) : (BitVec.ofInt IntKind.u64.bits (n : Int)).toNat = n := by
  show (BitVec.ofInt 64 (n : Int)).toNat = n
  rw [BitVec.ofInt_natCast, BitVec.toNat_ofNat]
  exact Nat.mod_eq_of_lt h

theorem tdivN (i : Nat) : (i : Int).tdiv 64 = ((i / 64 : Nat) : Int) := by rw [show (64 : Int) = ((64 : Nat) : Int) from rfl, Int.ofNat_tdiv]
theorem tmodN (i : Nat) : (i : Int).tmod 64 = ((i % 64 : Nat) : Int) := by rw [show (64 : Int) = ((64 : Nat) : Int) from rfl, Int.ofNat_tmod]

/-- A word of the row. -/
theorem kc_get {ws : List Nat} (h : KOK ws) {j : Nat} (hj : j < 74) : ((kc ws).drop j).take 1 = [.int .u64 (ws.getD j 0)] := by
  have hl : j < (kc ws).length := by rw [kc_len, h.1]; exact hj
  rw [List.drop_eq_getElem_cons hl]
  simp only [List.take_succ_cons, List.take_zero]
  have hj' : j < ws.length := by rw [h.1]; exact hj
  simp [kc, List.getD_eq_getElem?_getD, List.getElem?_eq_getElem hj']

theorem kget {H : AHeap} {p e wr : Nat} {md : OMode} {ws : List Nat} (h : KOK ws) (hH : H[p]? = some (.cells (kc ws) e wr md)) (hwr : wr ≤ 74) {off n : Nat} (ho : off + n ≤ 74) : getCells H p 74 off n = some (((kc ws).drop off).take n) := by
  unfold getCells
  rw [hH]
  simp only
  rw [if_pos ⟨hwr, by rw [kc_len, h.1]; exact Nat.le_refl _, ho⟩]

theorem c33 {H : AHeap} {p e wr : Nat} {md : OMode} {ws : List Nat} (h : KOK ws) (hH : H[p]? = some (.cells (kc ws) e wr md)) (hwr : wr ≤ 74) {i : Nat} (hi : i < 4736) (prot : Nat) :
    callInf cfg 33 [.pointer (some ⟨p, 0, some 74⟩), .int .i64 i] prot H = some (.bool (bitW ws i), H) := by
  have hj : i / 64 < 74 := by omega
  have := f33_F_0 p 0 74 i H prot (ws.getD (i / 64) 0) (fit64 (by rw [tdivN]; omega) (by rw [tdivN]; omega)) (by rw [tdivN]; omega) (by rw [tdivN]; omega)
    (by
      rw [tdivN, Int.toNat_natCast, Nat.mul_one, Nat.zero_add, kget h hH hwr (by omega), kc_get h hj]) (by rw [tmodN]; omega)
  rw [this]
  have hb : min ((i : Int).tmod 64).toNat IntKind.u64.bits = i % 64 := by
    rw [tmodN, Int.toNat_natCast]
    show min (i % 64) 64 = i % 64
    omega
  rw [hb]
  have hf : ((ws.getD (i / 64) 0 : Nat) : Int).fdiv (2 ^ (i % 64)) = ((ws.getD (i / 64) 0 / 2 ^ (i % 64) : Nat) : Int) := by
    rw [Int.fdiv_eq_ediv_of_nonneg _ (by exact_mod_cast Nat.zero_le _)]
    push_cast
    rfl
  rw [hf]
  have hlt := h.lt (i / 64)
  have hlt2 : ws.getD (i / 64) 0 / 2 ^ (i % 64) < 18446744073709551616 := Nat.lt_of_le_of_lt (Nat.div_le_self _ _) hlt
  have hand : (BitVec.ofInt IntKind.u64.bits ((ws.getD (i / 64) 0 / 2 ^ (i % 64) : Nat) : Int) &&& BitVec.ofInt IntKind.u64.bits 1).toNat = (ws.getD (i / 64) 0 / 2 ^ (i % 64)) % 2 := by
    rw [BitVec.toNat_and, ofInt_nat _ hlt2]
    have h1 : (BitVec.ofInt IntKind.u64.bits 1).toNat = 1 := by decide
    rw [h1, Nat.and_one_is_mod]
  rw [hand, u64_wrap, Nat.mod_eq_of_lt (by omega)]
  congr 2
  congr 1
  unfold bitW
  rw [Nat.testBit_eq_decide_div_mod_eq]
  rw [Bool.eq_iff_iff]
  simp only [bne_iff_ne, ne_eq, decide_eq_true_eq]
  omega

theorem kset {H : AHeap} {p e wr prot : Nat} {cs vs : List Value} {off : Nat} (hH : H[p]? = some (.cells cs e wr .var)) (hp : prot ≤ p) (ho : off + vs.length ≤ cs.length) (hv : vs.all isCell = true) :
    setCells H prot p cs.length off vs = some (H.set p (.cells (putList cs off vs) e cs.length .var)) := by
  unfold setCells
  rw [hH]
  simp only
  rw [if_pos ⟨rfl, hp, trivial, ho, hv⟩]

theorem put_kc {ws : List Nat} (h : KOK ws) {j : Nat} (hj : j < 74) (m : Nat) : putList (kc ws) j [.int .u64 m] = kc (ws.set j m) := by
  have hl : j < ws.length := by rw [h.1]; exact hj
  unfold putList kc
  rw [List.map_set, List.set_eq_take_append_cons_drop]
  simp [hl]

theorem c44 {H : AHeap} {p e wr : Nat} {ws : List Nat} (h : KOK ws) (hH : H[p]? = some (.cells (kc ws) e wr .var)) (hwr : wr ≤ 74) {i : Nat} (hi : i < 4736) {prot : Nat} (hp : prot ≤ p) :
    callInf cfg 44 [.pointer (some ⟨p, 0, some 74⟩), .int .i64 i] prot H = some (.tuple #[], H.set p (.cells (kc (addW ws i)) e 74 .var)) := by
  have hj : i / 64 < 74 := by omega
  have hlt := h.lt (i / 64)
  have hb : min ((i : Int).tmod 64).toNat IntKind.u64.bits = i % 64 := by
    rw [tmodN, Int.toNat_natCast]
    show min (i % 64) 64 = i % 64
    omega
  have hpow : 2 ^ (i % 64) < 18446744073709551616 := Nat.pow_lt_pow_of_lt (a := 2) (n := i % 64) (m := 64) (by omega) (by omega)
  have hval : IntKind.u64.wrap ((BitVec.ofInt IntKind.u64.bits ((ws.getD (i / 64) 0 : Nat) : Int) ||| BitVec.ofInt IntKind.u64.bits (IntKind.u64.wrap (1 * 2 ^ min ((i : Int).tmod 64).toNat IntKind.u64.bits))).toNat : Int) = ((ws.getD (i / 64) 0 ||| 2 ^ (i % 64) : Nat) : Int) := by
    have h1 : IntKind.u64.wrap (1 * 2 ^ min ((i : Int).tmod 64).toNat IntKind.u64.bits) = ((2 ^ (i % 64) : Nat) : Int) := by
      rw [hb, Int.one_mul]
      have : ((2 : Int) ^ (i % 64)) = ((2 ^ (i % 64) : Nat) : Int) := by push_cast; rfl
      rw [this, u64_wrap, Nat.mod_eq_of_lt hpow]
    rw [h1, BitVec.toNat_or, ofInt_nat _ hlt, ofInt_nat _ hpow, u64_wrap]
    have := Nat.or_lt_two_pow (n := 64) hlt hpow
    rw [Nat.mod_eq_of_lt this]
  have hoff : 0 + ((i : Int).tdiv 64).toNat * 1 = i / 64 := by rw [tdivN, Int.toNat_natCast]; omega
  refine f44_F_0 p 0 74 i H prot (ws.getD (i / 64) 0) _ (fit64 (by rw [tdivN]; omega) (by rw [tdivN]; omega)) (by rw [tdivN]; omega) (by rw [tdivN]; omega) ?_ (by rw [tmodN]; omega) rfl ?_
  · rw [hoff, kget h hH hwr (by omega), kc_get h hj]
  · rw [hval, hoff]
    have := kset (prot := prot) (off := i / 64) (vs := [.int .u64 ((ws.getD (i / 64) 0 ||| 2 ^ (i % 64) : Nat) : Int)]) hH hp (by rw [kc_len, h.1]; simp; omega) rfl
    rw [kc_len, h.1, put_kc h hj] at this
    exact this
end Go.Proofs.Ytedfombojnfbiaa.Am24
set_option linter.unusedVariables false
open Go Go.Proofs.Ytedfombojnfbiaa.Am
namespace Go.Proofs.Ytedfombojnfbiaa.Am24
theorem f32_F_0 (x0 : Int) (x1 : Int) (H : AHeap) (prot : Nat) (z5 : Int) (H1 : AHeap) (h1 : lpInf (lpOf cfg a32 0 prot H) ([Value.int IntKind.i64 x0, Value.int IntKind.i64 0, Value.int IntKind.i64 1, Value.int IntKind.i64 x1, Value.int IntKind.i64 0], H) = some (Ex.exit 0, [Value.int IntKind.i64 z5], H1)) : callInf cfg 32 [.int .i64 x0, .int .i64 x1] prot H = some (Value.int IntKind.i64 z5, H) :=
  fn_of a32 [.lo (.exit 0, [.int .i64 z5], H1)] (fun e => (lpInf (lpOf cfg a32 0 prot H) ([Value.int IntKind.i64 x0, Value.int IntKind.i64 0, Value.int IntKind.i64 1, Value.int IntKind.i64 x1, Value.int IntKind.i64 0], H) = some (Ex.exit 0, [Value.int IntKind.i64 z5], H1)) ∧ e) (by kernel_rfl) ⟨h1, rfl⟩ rfl
theorem f32_L0_0 (x0 : Int) (x5 : Int) (x6 : Int) (x7 : Int) (x8 : Int) (H0 : AHeap) (prot : Nat) (H : AHeap) (h1 : x8 < x7) (h2 : Fit IntKind.i64 (x5 + x6)) (h3 : Fit IntKind.i64 (x6 * x0)) (h4 : Fit IntKind.i64 (x8 + 1)) : lpOf cfg a32 0 prot H0 ([.int .i64 x0, .int .i64 x5, .int .i64 x6, .int .i64 x7, .int .i64 x8], H) = some (Sum.inl ([Value.int IntKind.i64 x0, Value.int IntKind.i64 (x5 + x6), Value.int IntKind.i64 (x6 * x0), Value.int IntKind.i64 x7, Value.int IntKind.i64 (x8 + 1)], H)) :=
  lp_of [.e, .b true, .e, .e, .e] (fun e => (decide (x8 < x7) = true) ∧ (Fit IntKind.i64 (x5 + x6)) ∧ (Fit IntKind.i64 (x6 * x0)) ∧ (Fit IntKind.i64 (x8 + 1)) ∧ e) (by kernel_rfl) ⟨decide_eq_true h1, h2, h3, h4, rfl⟩
theorem f32_L0_1 (x0 : Int) (x5 : Int) (x6 : Int) (x7 : Int) (x8 : Int) (H0 : AHeap) (prot : Nat) (H : AHeap) (h1 : ¬(x8 < x7)) : lpOf cfg a32 0 prot H0 ([.int .i64 x0, .int .i64 x5, .int .i64 x6, .int .i64 x7, .int .i64 x8], H) = some (Sum.inr (Ex.exit 0, [Value.int IntKind.i64 x5], H)) :=
  lp_of [.e, .b false] (fun e => (decide (x8 < x7) = false) ∧ e) (by kernel_rfl) ⟨decide_eq_false h1, rfl⟩
end Go.Proofs.Ytedfombojnfbiaa.Am24
set_option linter.unusedVariables false
open Go Go.Proofs.Ytedfombojnfbiaa.Am
namespace Go.Proofs.Ytedfombojnfbiaa.Am24
theorem f39_F_0 (x0 : Array Value) (x1 : Int) (x2 : Int) (x3 : Int) (H : AHeap) (prot : Nat) (x8p : Nat) (x8o : Nat) (x8l : Nat) (H1 : AHeap) (x11 : Array Value) (x9p : Nat) (x9o : Nat) (x9l : Nat) (H2 : AHeap) (H3 : AHeap) (x14 : Int) (z8p : Nat) (z8o : Nat) (z8l : Nat) (z9p : Nat) (z9o : Nat) (z9l : Nat) (H4 : AHeap) (x28 : Array Value) (H5 : AHeap) (w : Array Value) (rv : Value) (rH : AHeap) (h1 : x0.toList.all isCell = true) (h2 : aalloc cfg.P 65 (H ++ [AObj.cells x0.toList 65 x0.toList.length OMode.var]) = some (Value.pointer (some { block := x8p, off := x8o, spot := some x8l }), H1)) (h3 : getCells H1 (List.length H) x0.toList.length 0 74 = some x11.toList) (h4 : aalloc cfg.P 65 H1 = some (Value.pointer (some { block := x9p, off := x9o, spot := some x9l }), H2)) (h5 : x11.toList.length = 74) (h6 : setCells H2 (List.length H) x9p x9l x9o x11.toList = some H3) (h7 : callInf cfg 32 [Value.int IntKind.i64 x1, Value.int IntKind.i64 x2] (List.length H) H3 = some (Value.int IntKind.i64 x14, H3)) (h8 : lpInf (lpOf cfg a39 0 prot H) ([Value.int IntKind.i64 x1, Value.int IntKind.i64 x3, Value.pointer (some { block := List.length H, off := 0, spot := some x0.toList.length }), Value.pointer (some { block := x8p, off := x8o, spot := some x8l }), Value.pointer (some { block := x9p, off := x9o, spot := some x9l }), Value.int IntKind.i64 x14, Value.int IntKind.i64 0], H3) = some (Ex.exit 0, [Value.pointer (some { block := z8p, off := z8o, spot := some z8l }), Value.pointer (some { block := z9p, off := z9o, spot := some z9l })], H4)) (h9 : getCells H4 z9p z9l z9o 74 = some x28.toList) (h10 : x28.toList.length = 74) (h11 : setCells H4 (List.length H) z8p z8l z8o x28.toList = some H5) (h12 : getCells H5 z8p z8l z8o 74 = some w.toList) (h13 : pfin a39 H [Value.agg w] H5 = (rv, rH)) : callInf cfg 39 [.agg x0, .int .i64 x1, .int .i64 x2, .int .i64 x3] prot H = some (rv, rH) :=
  fn_of' a39 [.e, .r (.pointer (some ⟨x8p, x8o, some x8l⟩)) H1, .v (.agg x11), .r (.pointer (some ⟨x9p, x9o, some x9l⟩)) H2, .h H3, .v (.int .i64 x14), .lo (.exit 0, [.pointer (some ⟨z8p, z8o, some z8l⟩), .pointer (some ⟨z9p, z9o, some z9l⟩)], H4), .v (.agg x28), .h H5, .v (.agg w)] ((x0.toList.all isCell = true) ∧ (aalloc cfg.P 65 (H ++ [AObj.cells x0.toList 65 x0.toList.length OMode.var]) = some (Value.pointer (some { block := x8p, off := x8o, spot := some x8l }), H1)) ∧ (getCells H1 (List.length H) x0.toList.length 0 74 = some x11.toList) ∧ (aalloc cfg.P 65 H1 = some (Value.pointer (some { block := x9p, off := x9o, spot := some x9l }), H2)) ∧ (x11.toList.length = 74) ∧ (setCells H2 (List.length H) x9p x9l x9o x11.toList = some H3) ∧ (callInf cfg 32 [Value.int IntKind.i64 x1, Value.int IntKind.i64 x2] (List.length H) H3 = some (Value.int IntKind.i64 x14, H3)) ∧ (lpInf (lpOf cfg a39 0 prot H) ([Value.int IntKind.i64 x1, Value.int IntKind.i64 x3, Value.pointer (some { block := List.length H, off := 0, spot := some x0.toList.length }), Value.pointer (some { block := x8p, off := x8o, spot := some x8l }), Value.pointer (some { block := x9p, off := x9o, spot := some x9l }), Value.int IntKind.i64 x14, Value.int IntKind.i64 0], H3) = some (Ex.exit 0, [Value.pointer (some { block := z8p, off := z8o, spot := some z8l }), Value.pointer (some { block := z9p, off := z9o, spot := some z9l })], H4)) ∧ (getCells H4 z9p z9l z9o 74 = some x28.toList) ∧ (x28.toList.length = 74) ∧ (setCells H4 (List.length H) z8p z8l z8o x28.toList = some H5) ∧ (getCells H5 z8p z8l z8o 74 = some w.toList) ∧ (pfin a39 H [Value.agg w] H5 = (rv, rH))) (by kernel_rfl) ⟨h1, h2, h3, h4, h5, h6, h7, h8, h9, h10, h11, h12, h13⟩ rfl
theorem f39_L0_0 (x1 : Int) (x3 : Int) (x4p : Nat) (x4o : Nat) (x4l : Nat) (x8p : Nat) (x8o : Nat) (x8l : Nat) (x9p : Nat) (x9o : Nat) (x9l : Nat) (x14 : Int) (x15 : Int) (H0 : AHeap) (prot : Nat) (H : AHeap) (x19 : Bool) (H2 : AHeap) (h1 : x15 < x14) (h2 : callInf cfg 33 [Value.pointer (some { block := x4p, off := x4o, spot := some x4l }), Value.int IntKind.i64 x15] (List.length H0) H = some (Value.bool x19, H)) (h3 : x19 = true) (h4 : Fit IntKind.i64 (x1 * x15)) (h5 : Fit IntKind.i64 (x1 * x15 + x3)) (h6 : Fit IntKind.i64 (x1 * x15 + x3 + 1)) (h7 : callInf cfg 44 [Value.pointer (some { block := x9p, off := x9o, spot := some x9l }), Value.int IntKind.i64 (x1 * x15 + x3 + 1)] (List.length H0) H = some (Value.tuple { toList := [] }, H2)) (h8 : Fit IntKind.i64 (x15 + 1)) : lpOf cfg a39 0 prot H0 ([.int .i64 x1, .int .i64 x3, .pointer (some ⟨x4p, x4o, some x4l⟩), .pointer (some ⟨x8p, x8o, some x8l⟩), .pointer (some ⟨x9p, x9o, some x9l⟩), .int .i64 x14, .int .i64 x15], H) = some (Sum.inl ([Value.int IntKind.i64 x1, Value.int IntKind.i64 x3, Value.pointer (some { block := x4p, off := x4o, spot := some x4l }), Value.pointer (some { block := x8p, off := x8o, spot := some x8l }), Value.pointer (some { block := x9p, off := x9o, spot := some x9l }), Value.int IntKind.i64 x14, Value.int IntKind.i64 (x15 + 1)], H2)) :=
  lp_of [.e, .b true, .v (.bool x19), .b true, .e, .e, .e, .r (.tuple #[]) H2, .e] (fun e => (decide (x15 < x14) = true) ∧ (callInf cfg 33 [Value.pointer (some { block := x4p, off := x4o, spot := some x4l }), Value.int IntKind.i64 x15] (List.length H0) H = some (Value.bool x19, H)) ∧ (x19 = true) ∧ (Fit IntKind.i64 (x1 * x15)) ∧ (Fit IntKind.i64 (x1 * x15 + x3)) ∧ (Fit IntKind.i64 (x1 * x15 + x3 + 1)) ∧ (callInf cfg 44 [Value.pointer (some { block := x9p, off := x9o, spot := some x9l }), Value.int IntKind.i64 (x1 * x15 + x3 + 1)] (List.length H0) H = some (Value.tuple { toList := [] }, H2)) ∧ (Fit IntKind.i64 (x15 + 1)) ∧ e) (by kernel_rfl) ⟨decide_eq_true h1, h2, h3, h4, h5, h6, h7, h8, rfl⟩
theorem f39_L0_1 (x1 : Int) (x3 : Int) (x4p : Nat) (x4o : Nat) (x4l : Nat) (x8p : Nat) (x8o : Nat) (x8l : Nat) (x9p : Nat) (x9o : Nat) (x9l : Nat) (x14 : Int) (x15 : Int) (H0 : AHeap) (prot : Nat) (H : AHeap) (x19 : Bool) (h1 : x15 < x14) (h2 : callInf cfg 33 [Value.pointer (some { block := x4p, off := x4o, spot := some x4l }), Value.int IntKind.i64 x15] (List.length H0) H = some (Value.bool x19, H)) (h3 : x19 = false) (h4 : Fit IntKind.i64 (x15 + 1)) : lpOf cfg a39 0 prot H0 ([.int .i64 x1, .int .i64 x3, .pointer (some ⟨x4p, x4o, some x4l⟩), .pointer (some ⟨x8p, x8o, some x8l⟩), .pointer (some ⟨x9p, x9o, some x9l⟩), .int .i64 x14, .int .i64 x15], H) = some (Sum.inl ([Value.int IntKind.i64 x1, Value.int IntKind.i64 x3, Value.pointer (some { block := x4p, off := x4o, spot := some x4l }), Value.pointer (some { block := x8p, off := x8o, spot := some x8l }), Value.pointer (some { block := x9p, off := x9o, spot := some x9l }), Value.int IntKind.i64 x14, Value.int IntKind.i64 (x15 + 1)], H)) :=
  lp_of [.e, .b true, .v (.bool x19), .b false, .e] (fun e => (decide (x15 < x14) = true) ∧ (callInf cfg 33 [Value.pointer (some { block := x4p, off := x4o, spot := some x4l }), Value.int IntKind.i64 x15] (List.length H0) H = some (Value.bool x19, H)) ∧ (x19 = false) ∧ (Fit IntKind.i64 (x15 + 1)) ∧ e) (by kernel_rfl) ⟨decide_eq_true h1, h2, h3, h4, rfl⟩
theorem f39_L0_2 (x1 : Int) (x3 : Int) (x4p : Nat) (x4o : Nat) (x4l : Nat) (x8p : Nat) (x8o : Nat) (x8l : Nat) (x9p : Nat) (x9o : Nat) (x9l : Nat) (x14 : Int) (x15 : Int) (H0 : AHeap) (prot : Nat) (H : AHeap) (h1 : ¬(x15 < x14)) : lpOf cfg a39 0 prot H0 ([.int .i64 x1, .int .i64 x3, .pointer (some ⟨x4p, x4o, some x4l⟩), .pointer (some ⟨x8p, x8o, some x8l⟩), .pointer (some ⟨x9p, x9o, some x9l⟩), .int .i64 x14, .int .i64 x15], H) = some (Sum.inr (Ex.exit 0, [Value.pointer (some { block := x8p, off := x8o, spot := some x8l }), Value.pointer (some { block := x9p, off := x9o, spot := some x9l })], H)) :=
  lp_of [.e, .b false] (fun e => (decide (x15 < x14) = false) ∧ e) (by kernel_rfl) ⟨decide_eq_false h1, rfl⟩
end Go.Proofs.Ytedfombojnfbiaa.Am24
set_option linter.unusedVariables false
open Go Go.Proofs.Ytedfombojnfbiaa.Am
namespace Go.Proofs.Ytedfombojnfbiaa.Am24
theorem f38_F_0 (H : AHeap) (prot : Nat) (x0p : Nat) (x0o : Nat) (x0l : Nat) (H1 : AHeap) (x1p : Nat) (x1o : Nat) (x1l : Nat) (H2 : AHeap) (H3 : AHeap) (x3 : Array Value) (H4 : AHeap) (w : Array Value) (rv : Value) (rH : AHeap) (h1 : aalloc cfg.P 65 H = some (Value.pointer (some { block := x0p, off := x0o, spot := some x0l }), H1)) (h2 : aalloc cfg.P 65 H1 = some (Value.pointer (some { block := x1p, off := x1o, spot := some x1l }), H2)) (h3 : callInf cfg 44 [Value.pointer (some { block := x1p, off := x1o, spot := some x1l }), Value.int IntKind.i64 0] (List.length H) H2 = some (Value.tuple { toList := [] }, H3)) (h4 : getCells H3 x1p x1l x1o 74 = some x3.toList) (h5 : x3.toList.length = 74) (h6 : setCells H3 (List.length H) x0p x0l x0o x3.toList = some H4) (h7 : getCells H4 x0p x0l x0o 74 = some w.toList) (h8 : pfin a38 H [Value.agg w] H4 = (rv, rH)) : callInf cfg 38 [] prot H = some (rv, rH) :=
  fn_of' a38 [.r (.pointer (some ⟨x0p, x0o, some x0l⟩)) H1, .r (.pointer (some ⟨x1p, x1o, some x1l⟩)) H2, .r (.tuple #[]) H3, .v (.agg x3), .h H4, .v (.agg w)] ((aalloc cfg.P 65 H = some (Value.pointer (some { block := x0p, off := x0o, spot := some x0l }), H1)) ∧ (aalloc cfg.P 65 H1 = some (Value.pointer (some { block := x1p, off := x1o, spot := some x1l }), H2)) ∧ (callInf cfg 44 [Value.pointer (some { block := x1p, off := x1o, spot := some x1l }), Value.int IntKind.i64 0] (List.length H) H2 = some (Value.tuple { toList := [] }, H3)) ∧ (getCells H3 x1p x1l x1o 74 = some x3.toList) ∧ (x3.toList.length = 74) ∧ (setCells H3 (List.length H) x0p x0l x0o x3.toList = some H4) ∧ (getCells H4 x0p x0l x0o 74 = some w.toList) ∧ (pfin a38 H [Value.agg w] H4 = (rv, rH))) (by kernel_rfl) ⟨h1, h2, h3, h4, h5, h6, h7, h8⟩ rfl
end Go.Proofs.Ytedfombojnfbiaa.Am24
set_option linter.unusedVariables false
open Go Go.Proofs.Ytedfombojnfbiaa.Am
namespace Go.Proofs.Ytedfombojnfbiaa.Am24
theorem f30_F_0 (x0 : Int) (x1 : Int) (x2 : ByteArray) (H : AHeap) (prot : Nat) (x6p : Nat) (x6o : Nat) (x6l : Nat) (H1 : AHeap) (x9 : Array Value) (x7p : Nat) (x7o : Nat) (x7l : Nat) (H2 : AHeap) (H3 : AHeap) (z6p : Nat) (z6o : Nat) (z6l : Nat) (z7p : Nat) (z7o : Nat) (z7l : Nat) (H4 : AHeap) (x25 : Array Value) (H5 : AHeap) (w : Array Value) (rv : Value) (rH : AHeap) (h1 : aalloc cfg.P 65 H = some (Value.pointer (some { block := x6p, off := x6o, spot := some x6l }), H1)) (h2 : callInf cfg 38 [] (List.length H) H1 = some (Value.agg x9, H1)) (h3 : aalloc cfg.P 65 H1 = some (Value.pointer (some { block := x7p, off := x7o, spot := some x7l }), H2)) (h4 : x9.toList.length = 74) (h5 : setCells H2 (List.length H) x7p x7l x7o x9.toList = some H3) (h6 : lpInf (lpOf cfg a30 0 prot H) ([Value.int IntKind.i64 x0, Value.int IntKind.i64 x1, Value.string x2, Value.pointer (some { block := x6p, off := x6o, spot := some x6l }), Value.pointer (some { block := x7p, off := x7o, spot := some x7l }), Value.int IntKind.i64 (↑x2.size : Int), Value.int IntKind.i64 0], H3) = some (Ex.exit 0, [Value.pointer (some { block := z6p, off := z6o, spot := some z6l }), Value.pointer (some { block := z7p, off := z7o, spot := some z7l })], H4)) (h7 : getCells H4 z7p z7l z7o 74 = some x25.toList) (h8 : x25.toList.length = 74) (h9 : setCells H4 (List.length H) z6p z6l z6o x25.toList = some H5) (h10 : getCells H5 z6p z6l z6o 74 = some w.toList) (h11 : pfin a30 H [Value.agg w] H5 = (rv, rH)) : callInf cfg 30 [.int .i64 x0, .int .i64 x1, .string x2] prot H = some (rv, rH) :=
  fn_of' a30 [.r (.pointer (some ⟨x6p, x6o, some x6l⟩)) H1, .v (.agg x9), .r (.pointer (some ⟨x7p, x7o, some x7l⟩)) H2, .h H3, .e, .lo (.exit 0, [.pointer (some ⟨z6p, z6o, some z6l⟩), .pointer (some ⟨z7p, z7o, some z7l⟩)], H4), .v (.agg x25), .h H5, .v (.agg w)] ((aalloc cfg.P 65 H = some (Value.pointer (some { block := x6p, off := x6o, spot := some x6l }), H1)) ∧ (callInf cfg 38 [] (List.length H) H1 = some (Value.agg x9, H1)) ∧ (aalloc cfg.P 65 H1 = some (Value.pointer (some { block := x7p, off := x7o, spot := some x7l }), H2)) ∧ (x9.toList.length = 74) ∧ (setCells H2 (List.length H) x7p x7l x7o x9.toList = some H3) ∧ (lpInf (lpOf cfg a30 0 prot H) ([Value.int IntKind.i64 x0, Value.int IntKind.i64 x1, Value.string x2, Value.pointer (some { block := x6p, off := x6o, spot := some x6l }), Value.pointer (some { block := x7p, off := x7o, spot := some x7l }), Value.int IntKind.i64 (↑x2.size : Int), Value.int IntKind.i64 0], H3) = some (Ex.exit 0, [Value.pointer (some { block := z6p, off := z6o, spot := some z6l }), Value.pointer (some { block := z7p, off := z7o, spot := some z7l })], H4)) ∧ (getCells H4 z7p z7l z7o 74 = some x25.toList) ∧ (x25.toList.length = 74) ∧ (setCells H4 (List.length H) z6p z6l z6o x25.toList = some H5) ∧ (getCells H5 z6p z6l z6o 74 = some w.toList) ∧ (pfin a30 H [Value.agg w] H5 = (rv, rH))) (by kernel_rfl) ⟨h1, h2, h3, h4, h5, h6, h7, h8, h9, h10, h11⟩ rfl
theorem f30_L0_0 (x0 : Int) (x1 : Int) (x2 : ByteArray) (x6p : Nat) (x6o : Nat) (x6l : Nat) (x7p : Nat) (x7o : Nat) (x7l : Nat) (x11 : Int) (x12 : Int) (H0 : AHeap) (prot : Nat) (H : AHeap) (x15 : Array Value) (x23 : Array Value) (H2 : AHeap) (h1 : x12 < x11) (h2 : getCells H x7p x7l x7o 74 = some x15.toList) (h3 : 0 ≤ x12) (h4 : x12 < (↑x2.size : Int)) (h5 : Fit IntKind.i64 (IntKind.u8.wrap ((↑(x2.get! x12.toNat).toNat : Int) - 97))) (h6 : callInf cfg 39 [Value.agg x15, Value.int IntKind.i64 x0, Value.int IntKind.i64 x1, Value.int IntKind.i64 (IntKind.u8.wrap ((↑(x2.get! x12.toNat).toNat : Int) - 97))] (List.length H0) H = some (Value.agg x23, H)) (h7 : x23.toList.length = 74) (h8 : setCells H (List.length H0) x7p x7l x7o x23.toList = some H2) (h9 : Fit IntKind.i64 (x12 + 1)) : lpOf cfg a30 0 prot H0 ([.int .i64 x0, .int .i64 x1, .string x2, .pointer (some ⟨x6p, x6o, some x6l⟩), .pointer (some ⟨x7p, x7o, some x7l⟩), .int .i64 x11, .int .i64 x12], H) = some (Sum.inl ([Value.int IntKind.i64 x0, Value.int IntKind.i64 x1, Value.string x2, Value.pointer (some { block := x6p, off := x6o, spot := some x6l }), Value.pointer (some { block := x7p, off := x7o, spot := some x7l }), Value.int IntKind.i64 x11, Value.int IntKind.i64 (x12 + 1)], H2)) :=
  lp_of [.e, .b true, .v (.agg x15), .e, .e, .e, .v (.agg x23), .h H2, .e] (fun e => (decide (x12 < x11) = true) ∧ (getCells H x7p x7l x7o 74 = some x15.toList) ∧ (0 ≤ x12) ∧ (x12 < (↑x2.size : Int)) ∧ (Fit IntKind.i64 (IntKind.u8.wrap ((↑(x2.get! x12.toNat).toNat : Int) - 97))) ∧ (callInf cfg 39 [Value.agg x15, Value.int IntKind.i64 x0, Value.int IntKind.i64 x1, Value.int IntKind.i64 (IntKind.u8.wrap ((↑(x2.get! x12.toNat).toNat : Int) - 97))] (List.length H0) H = some (Value.agg x23, H)) ∧ (x23.toList.length = 74) ∧ (setCells H (List.length H0) x7p x7l x7o x23.toList = some H2) ∧ (Fit IntKind.i64 (x12 + 1)) ∧ e) (by kernel_rfl) ⟨decide_eq_true h1, h2, h3, h4, h5, h6, h7, h8, h9, rfl⟩
theorem f30_L0_1 (x0 : Int) (x1 : Int) (x2 : ByteArray) (x6p : Nat) (x6o : Nat) (x6l : Nat) (x7p : Nat) (x7o : Nat) (x7l : Nat) (x11 : Int) (x12 : Int) (H0 : AHeap) (prot : Nat) (H : AHeap) (h1 : ¬(x12 < x11)) : lpOf cfg a30 0 prot H0 ([.int .i64 x0, .int .i64 x1, .string x2, .pointer (some ⟨x6p, x6o, some x6l⟩), .pointer (some ⟨x7p, x7o, some x7l⟩), .int .i64 x11, .int .i64 x12], H) = some (Sum.inr (Ex.exit 0, [Value.pointer (some { block := x6p, off := x6o, spot := some x6l }), Value.pointer (some { block := x7p, off := x7o, spot := some x7l })], H)) :=
  lp_of [.e, .b false] (fun e => (decide (x12 < x11) = false) ∧ e) (by kernel_rfl) ⟨decide_eq_false h1, rfl⟩
end Go.Proofs.Ytedfombojnfbiaa.Am24
namespace Go.Proofs.Ytedfombojnfbiaa.Am24
open Go Go.Proofs.Ytedfombojnfbiaa.Am

/-- How many words of fewer than n letters there are. -/
def sho (k : Nat) : Nat → Nat
  | 0 => 0
  | n + 1 => sho k n + k ^ n

theorem pow_bound {k j : Nat} (hk : k ≤ 8) (hj : j ≤ 5) : k ^ j ≤ 32768 :=
  Nat.le_trans (Nat.pow_le_pow_left hk j) (Nat.le_trans (Nat.pow_le_pow_right (by omega) hj) (by decide))
theorem sho_bound {k : Nat} (hk : k ≤ 8) : ∀ n, n ≤ 5 → sho k n ≤ n * 32768
  | 0, _ => by simp [sho]
  | n + 1, h => by
    have := sho_bound hk n (by omega)
    have := pow_bound (j := n) hk (by omega)
    simp only [sho]
    omega
theorem sho_mono {k n m : Nat} (h : n ≤ m) : sho k n ≤ sho k m := by
  induction h with
  | refl => exact Nat.le_refl _
  | step _ ih => exact Nat.le_trans ih (by simp only [sho]; omega)
theorem sho_succ (k : Nat) : ∀ n, sho k (n + 1) = 1 + k * sho k n
  | 0 => by simp [sho]
  | n + 1 => by
    have ih := sho_succ k n
    have e : sho k (n + 1) = sho k n + k ^ n := rfl
    have e2 : sho k (n + 1 + 1) = sho k (n + 1) + k ^ (n + 1) := rfl
    have h := Nat.mul_add k (sho k n) (k ^ n)
    rw [← e] at h
    rw [e2, Nat.pow_succ, Nat.mul_comm (k ^ n) k]
    omega

theorem loop32 {k : Nat} (hk : k ≤ 8) {n : Nat} (hn : n ≤ 5) (H0 H : AHeap) (prot : Nat) : ∀ d j : Nat, j + d = n →
    lpInf (lpOf cfg a32 0 prot H0) ([.int .i64 k, .int .i64 (sho k j : Nat), .int .i64 (k ^ j : Nat), .int .i64 n, .int .i64 j], H) = some (.exit 0, [.int .i64 (sho k n : Nat)], H)
  | 0, j, hj => by
    have : j = n := by omega
    subst this
    exact lp_last (f32_L0_1 _ _ _ _ _ H0 prot H (by omega))
  | d + 1, j, hj => by
    have b1 := sho_bound hk (j + 1) (by omega)
    have b2 := pow_bound (j := j) hk (by omega)
    have e1 : ((sho k j : Nat) : Int) + ((k ^ j : Nat) : Int) = ((sho k (j + 1) : Nat) : Int) := by simp only [sho]; omega
    have e2 : ((k ^ j : Nat) : Int) * (k : Int) = ((k ^ (j + 1) : Nat) : Int) := by rw [Nat.pow_succ]; push_cast; rfl
    have b3 : k ^ (j + 1) ≤ 32768 * 8 := by rw [Nat.pow_succ]; exact Nat.mul_le_mul b2 hk
    have := f32_L0_0 k (sho k j : Nat) (k ^ j : Nat) n j H0 prot H (by omega) (fit64 (by omega) (by omega)) (by rw [e2]; exact fit64 (by omega) (by omega)) (fit64 (by omega) (by omega))
    rw [e1, e2] at this
    exact lp_next this (loop32 hk hn H0 H prot d (j + 1) (by omega))

theorem c32 {k : Nat} (hk : k ≤ 8) {n : Nat} (hn : n ≤ 5) (prot : Nat) (H : AHeap) : callInf cfg 32 [.int .i64 k, .int .i64 n] prot H = some (.int .i64 (sho k n : Nat), H) :=
  f32_F_0 k n H prot _ H (loop32 hk hn H H prot n 0 (by omega))

/-- A new row of bits. -/
theorem alloc65 (H : AHeap) : aalloc cfg.P 65 H = some (.pointer (some ⟨H.length, 0, some 74⟩), H ++ [.cells (kc (List.replicate 74 0)) 65 74 .var]) := by kernel_rfl
theorem zeroOK : KOK (List.replicate 74 0) := ⟨by simp, fun n hn => by rw [List.eq_of_mem_replicate hn]; omega⟩

/-- The bits of a word with a letter more. -/
def withW (ws : List Nat) (k l : Nat) : Nat → List Nat → Nat → List Nat
  | 0, ys, _ => ys
  | d + 1, ys, i => withW ws k l d (if bitW ws i then addW ys (k * i + l + 1) else ys) (i + 1)
theorem withW_ok {ws : List Nat} {k l : Nat} : ∀ d ys i, KOK ys → KOK (withW ws k l d ys i)
  | 0, ys, i, h => h
  | d + 1, ys, i, h => by
    simp only [withW]
    refine withW_ok d _ _ ?_
    split
    · exact h.add _
    · exact h


theorem set_same {H : AHeap} {p : Nat} {x : AObj} (h : H[p]? = some x) : H.set p x = H := by
  apply List.ext_getElem?
  intro i
  by_cases hi : i = p
  · subst hi
    rw [List.getElem?_set_self (List.getElem?_eq_some_iff.1 h).1, h]
  · rw [List.getElem?_set_ne (fun e => hi e.symm)]
theorem get_set_self {H : AHeap} {p : Nat} {x y : AObj} (h : H[p]? = some x) : (H.set p y)[p]? = some y := List.getElem?_set_self (List.getElem?_eq_some_iff.1 h).1
theorem get_set_ne {H : AHeap} {p q : Nat} {y : AObj} (h : q ≠ p) : (H.set p y)[q]? = H[q]? := List.getElem?_set_ne (fun e => h e.symm)

abbrev kobj (ws : List Nat) : AObj := .cells (kc ws) 65 74 .var

theorem loop39 {ws : List Nat} (hws : KOK ws) {k l m : Nat} (hl : l < k) (hk : k ≤ 8) (hm : k * m < 4736) (p4 p8 p9 o8 l8 : Nat) (h49 : p4 ≠ p9) (H0 : AHeap) (prot : Nat) (hp : H0.length ≤ p9) : ∀ (d i : Nat) (ys : List Nat) (H : AHeap), i + d = m → KOK ys →
    H[p4]? = some (kobj ws) → H[p9]? = some (kobj ys) →
    lpInf (lpOf cfg a39 0 prot H0) ([.int .i64 k, .int .i64 l, .pointer (some ⟨p4, 0, some 74⟩), .pointer (some ⟨p8, o8, some l8⟩), .pointer (some ⟨p9, 0, some 74⟩), .int .i64 m, .int .i64 i], H) =
      some (.exit 0, [.pointer (some ⟨p8, o8, some l8⟩), .pointer (some ⟨p9, 0, some 74⟩)], H.set p9 (kobj (withW ws k l d ys i)))
  | 0, i, ys, H, hi, hy, h4, h9 => by
    simp only [withW]
    rw [set_same h9]
    exact lp_last (f39_L0_2 k l p4 0 74 p8 o8 l8 p9 0 74 m i H0 prot H (by omega))
  | d + 1, i, ys, H, hi, hy, h4, h9 => by
    have him : k * i + k ≤ k * m := by
      have := Nat.mul_le_mul (Nat.le_refl k) (show i + 1 ≤ m by omega)
      rw [Nat.mul_add, Nat.mul_one] at this
      exact this
    have hmi : i ≤ k * m := by
      have := Nat.mul_le_mul (show 1 ≤ k by omega) (show i ≤ m by omega)
      omega
    have e1 : (k : Int) * (i : Int) = ((k * i : Nat) : Int) := by push_cast; rfl
    have e2 : ((k * i : Nat) : Int) + (l : Int) + 1 = ((k * i + l + 1 : Nat) : Int) := by push_cast; rfl
    have hs := c33 hws h4 (Nat.le_refl _) (i := i) (by omega) H0.length
    simp only [withW]
    cases hb : bitW ws i with
    | true =>
      rw [hb] at hs
      have ha := c44 hy h9 (Nat.le_refl _) (i := k * i + l + 1) (by omega) hp
      rw [if_pos rfl]
      have step := f39_L0_0 k l p4 0 74 p8 o8 l8 p9 0 74 m i H0 prot H true _ (by omega) hs rfl (by rw [e1]; exact fit64 (by omega) (by omega)) (by rw [e1]; exact fit64 (by omega) (by omega)) (by rw [e1, e2]; exact fit64 (by omega) (by omega)) (by rw [e1, e2]; exact ha) (fit64 (by omega) (by omega))
      have ih := loop39 hws hl hk hm p4 p8 p9 o8 l8 h49 H0 prot hp d (i + 1) (addW ys (k * i + l + 1)) _ (by omega) (hy.add _) (by rw [get_set_ne h49]; exact h4) (get_set_self h9)
      rw [List.set_set] at ih
      exact lp_next step ih
    | false =>
      rw [hb] at hs
      rw [if_neg (by simp)]
      have step := f39_L0_1 k l p4 0 74 p8 o8 l8 p9 0 74 m i H0 prot H false (by omega) hs rfl (fit64 (by omega) (by omega))
      exact lp_next step (loop39 hws hl hk hm p4 p8 p9 o8 l8 h49 H0 prot hp d (i + 1) ys H (by omega) hy h4 h9)

theorem kplain (ws : List Nat) : (kc ws).all plain0 = true := by
  rw [List.all_eq_true]
  intro v hv
  obtain ⟨n, _, rfl⟩ := List.mem_map.1 hv
  rfl
theorem kcell (ws : List Nat) : (kc ws).all isCell = true := by
  rw [List.all_eq_true]
  intro v hv
  obtain ⟨n, _, rfl⟩ := List.mem_map.1 hv
  rfl
/-- A row of bits as a value. -/
def kval (ws : List Nat) : Value := .agg (kc ws).toArray
theorem pfin_k {fn : AFunc} (hm : fn.muts = false) (H H1 : AHeap) (ws : List Nat) : pfin fn H [kval ws] H1 = (kval ws, H) := by
  rw [pfin_eq, hm]
  simp only [Bool.false_eq_true, if_false]
  rw [gc_plain]
  · rfl
  · simp only [kval, List.all_cons, List.all_nil, Bool.and_true]
    exact kplain ws

theorem kget_all {H : AHeap} {p : Nat} {ws : List Nat} (h : KOK ws) (hH : H[p]? = some (kobj ws)) : getCells H p 74 0 74 = some (kc ws) := by
  rw [kget h hH (Nat.le_refl _) (by omega)]
  rw [List.drop_zero, List.take_of_length_le (by rw [kc_len, h.1]; exact Nat.le_refl _)]
theorem kset_all {H : AHeap} {p prot : Nat} {ws ys : List Nat} (h : KOK ws) (hy : KOK ys) (hH : H[p]? = some (kobj ws)) (hp : prot ≤ p) : setCells H prot p 74 0 (kc ys) = some (H.set p (kobj ys)) := by
  have := kset (off := 0) (vs := kc ys) hH hp (by rw [kc_len, kc_len, h.1, hy.1]; omega) (kcell ys)
  rw [kc_len, h.1] at this
  rw [this]
  have : putList (kc ws) 0 (kc ys) = kc ys := by
    unfold putList
    simp [kc_len, h.1, hy.1]
  rw [this]

/-- The bits of w with letter l more. -/
def withK (k n l : Nat) (ws : List Nat) : List Nat := withW ws k l (sho k n) ws 0
theorem withK_ok {k n l : Nat} {ws : List Nat} (h : KOK ws) : KOK (withK k n l ws) := withW_ok _ _ _ h

theorem sho_room {k n : Nat} (hk : k ≤ 8) (hn : n ≤ 4) : k * sho k n < 4736 := by
  have h1 : sho k n ≤ sho 8 4 := by
    have a : ∀ n, sho k n ≤ sho 8 n := fun n => by
      induction n with
      | zero => exact Nat.le_refl _
      | succ n ih => simp only [sho]; exact Nat.add_le_add ih (Nat.pow_le_pow_left hk n)
    exact Nat.le_trans (a n) (sho_mono hn)
  have h2 : sho 8 4 = 585 := by decide
  rw [h2] at h1
  have := Nat.mul_le_mul hk h1
  omega

theorem c39 {k n l : Nat} (hk : k ≤ 8) (hn : n ≤ 4) (hl : l < k) {ws : List Nat} (h : KOK ws) (prot : Nat) (H : AHeap) :
    callInf cfg 39 [kval ws, .int .i64 k, .int .i64 n, .int .i64 l] prot H = some (kval (withK k n l ws), H) := by
  have hlen : (kc ws).toArray.toList.length = 74 := by show (kc ws).length = 74; rw [kc_len, h.1]
  have F := f39_F_0 (kc ws).toArray k n l H prot
  rw [hlen] at F
  let H1 := H ++ [kobj ws]
  let H2 := H1 ++ [kobj (List.replicate 74 0)]
  let H3 := H2 ++ [kobj (List.replicate 74 0)]
  have l1 : H1.length = H.length + 1 := by simp [H1]
  have l2 : H2.length = H.length + 2 := by simp [H2, l1]
  have l3 : H3.length = H.length + 3 := by simp [H3, l2]
  have g4 : H2[H.length]? = some (kobj ws) := by
    show (H1 ++ _)[H.length]? = _
    rw [List.getElem?_append_left (by omega)]
    exact append_get.1
  have g4' : H3[H.length]? = some (kobj ws) := by
    show (H2 ++ _)[H.length]? = _
    rw [List.getElem?_append_left (by omega)]
    exact g4
  have g8 : H3[H1.length]? = some (kobj (List.replicate 74 0)) := by
    show (H2 ++ _)[H1.length]? = _
    rw [List.getElem?_append_left (by omega)]
    exact append_get.1
  have g9 : H3[H2.length]? = some (kobj (List.replicate 74 0)) := append_get.1
  let H4 := H3.set H2.length (kobj ws)
  let ys := withK k n l ws
  have hy : KOK ys := withK_ok h
  let H5 := H4.set H2.length (kobj ys)
  let H6 := H5.set H1.length (kobj ys)
  have g49 : H4[H.length]? = some (kobj ws) := by rw [show H4 = H3.set H2.length (kobj ws) from rfl, get_set_ne (by omega)]; exact g4'
  have g99 : H4[H2.length]? = some (kobj ws) := get_set_self g9
  have g89 : H5[H1.length]? = some (kobj (List.replicate 74 0)) := by
    rw [show H5 = (H3.set H2.length (kobj ws)).set H2.length (kobj ys) from rfl, get_set_ne (by omega), get_set_ne (by omega)]
    exact g8
  refine F H1.length 0 74 H2 (kc ws).toArray H2.length 0 74 H3 H4 (sho k n : Nat) H1.length 0 74 H2.length 0 74 H5 (kc ys).toArray H6 (kc ys).toArray _ _ (kcell ws) ?_ ?_ ?_ ?_ ?_ ?_ ?_ ?_ ?_ ?_ ?_ (pfin_k rfl H H6 ys)
  · exact alloc65 H1
  · exact kget_all h g4
  · exact alloc65 H2
  · exact hlen
  · exact kset_all zeroOK h g9 (by omega)
  · exact c32 hk (by omega) _ _
  · exact loop39 h hl hk (sho_room hk hn) H.length H1.length H2.length 0 74 (by omega) H prot (by omega) (sho k n) 0 ws H4 (by omega) h g49 g99
  · exact kget_all hy (get_set_self g99)
  · show (kc ys).length = 74; rw [kc_len, hy.1]
  · exact kset_all zeroOK hy g89 (by omega)
  · exact kget_all hy (get_set_self g89)
end Go.Proofs.Ytedfombojnfbiaa.Am24
set_option linter.unusedVariables false
open Go Go.Proofs.Ytedfombojnfbiaa.Am
namespace Go.Proofs.Ytedfombojnfbiaa.Am24
theorem f42_F_0 (x0a : Option Addr) (x0n : Nat) (x0c : Nat) (H : AHeap) (prot : Nat) (H1 : AHeap) (h1 : Fit IntKind.i64 ((↑x0n : Int) - 1)) (h2 : lpInf (lpOf cfg a42 0 prot H) ([Value.slice x0a x0n x0c, Value.int IntKind.i64 0, Value.int IntKind.i64 ((↑x0n : Int) - 1)], H) = some (Ex.exit 0, [], H1)) : callInf cfg 42 [.slice x0a x0n x0c] prot H = some (Value.tuple { toList := [] }, H1) :=
  fn_of a42 [.e, .e, .lo (.exit 0, [], H1)] (fun e => (Fit IntKind.i64 ((↑x0n : Int) - 1)) ∧ (lpInf (lpOf cfg a42 0 prot H) ([Value.slice x0a x0n x0c, Value.int IntKind.i64 0, Value.int IntKind.i64 ((↑x0n : Int) - 1)], H) = some (Ex.exit 0, [], H1)) ∧ e) (by kernel_rfl) ⟨h1, h2, rfl⟩ rfl
theorem f42_L0_0 (x0a : Option Addr) (x0n : Nat) (x0c : Nat) (x2 : Int) (x3 : Int) (H0 : AHeap) (prot : Nat) (H : AHeap) (x20p : Nat) (x20o : Nat) (x20l : Nat) (x21 : Int) (x24p : Nat) (x24o : Nat) (x24l : Nat) (x25 : Int) (x26p : Nat) (x26o : Nat) (x26l : Nat) (H2 : AHeap) (x27p : Nat) (x27o : Nat) (x27l : Nat) (H3 : AHeap) (h1 : x2 < x3) (h2 : aindexAddr cfg.P 79 (Value.slice x0a x0n x0c) (Value.int IntKind.i64 x3) = some (Value.pointer (some { block := x20p, off := x20o, spot := some x20l }))) (h3 : getCells H x20p x20l x20o 1 = some [Value.int IntKind.u8 x21]) (h4 : aindexAddr cfg.P 79 (Value.slice x0a x0n x0c) (Value.int IntKind.i64 x2) = some (Value.pointer (some { block := x24p, off := x24o, spot := some x24l }))) (h5 : getCells H x24p x24l x24o 1 = some [Value.int IntKind.u8 x25]) (h6 : aindexAddr cfg.P 79 (Value.slice x0a x0n x0c) (Value.int IntKind.i64 x2) = some (Value.pointer (some { block := x26p, off := x26o, spot := some x26l }))) (h7 : [Value.int IntKind.u8 x21].length = 1) (h8 : setCells H prot x26p x26l x26o [Value.int IntKind.u8 x21] = some H2) (h9 : aindexAddr cfg.P 79 (Value.slice x0a x0n x0c) (Value.int IntKind.i64 x3) = some (Value.pointer (some { block := x27p, off := x27o, spot := some x27l }))) (h10 : [Value.int IntKind.u8 x25].length = 1) (h11 : setCells H2 prot x27p x27l x27o [Value.int IntKind.u8 x25] = some H3) (h12 : Fit IntKind.i64 (x2 + 1)) (h13 : Fit IntKind.i64 (x3 - 1)) : lpOf cfg a42 0 prot H0 ([.slice x0a x0n x0c, .int .i64 x2, .int .i64 x3], H) = some (Sum.inl ([Value.slice x0a x0n x0c, Value.int IntKind.i64 (x2 + 1), Value.int IntKind.i64 (x3 - 1)], H3)) :=
  lp_of [.e, .b true, .v (.pointer (some ⟨x20p, x20o, some x20l⟩)), .v (.int .u8 x21), .v (.pointer (some ⟨x24p, x24o, some x24l⟩)), .v (.int .u8 x25), .v (.pointer (some ⟨x26p, x26o, some x26l⟩)), .h H2, .v (.pointer (some ⟨x27p, x27o, some x27l⟩)), .h H3, .e, .e] (fun e => (decide (x2 < x3) = true) ∧ (aindexAddr cfg.P 79 (Value.slice x0a x0n x0c) (Value.int IntKind.i64 x3) = some (Value.pointer (some { block := x20p, off := x20o, spot := some x20l }))) ∧ (getCells H x20p x20l x20o 1 = some [Value.int IntKind.u8 x21]) ∧ (aindexAddr cfg.P 79 (Value.slice x0a x0n x0c) (Value.int IntKind.i64 x2) = some (Value.pointer (some { block := x24p, off := x24o, spot := some x24l }))) ∧ (getCells H x24p x24l x24o 1 = some [Value.int IntKind.u8 x25]) ∧ (aindexAddr cfg.P 79 (Value.slice x0a x0n x0c) (Value.int IntKind.i64 x2) = some (Value.pointer (some { block := x26p, off := x26o, spot := some x26l }))) ∧ ([Value.int IntKind.u8 x21].length = 1) ∧ (setCells H prot x26p x26l x26o [Value.int IntKind.u8 x21] = some H2) ∧ (aindexAddr cfg.P 79 (Value.slice x0a x0n x0c) (Value.int IntKind.i64 x3) = some (Value.pointer (some { block := x27p, off := x27o, spot := some x27l }))) ∧ ([Value.int IntKind.u8 x25].length = 1) ∧ (setCells H2 prot x27p x27l x27o [Value.int IntKind.u8 x25] = some H3) ∧ (Fit IntKind.i64 (x2 + 1)) ∧ (Fit IntKind.i64 (x3 - 1)) ∧ e) (by kernel_rfl) ⟨decide_eq_true h1, h2, h3, h4, h5, h6, h7, h8, h9, h10, h11, h12, h13, rfl⟩
theorem f42_L0_1 (x0a : Option Addr) (x0n : Nat) (x0c : Nat) (x2 : Int) (x3 : Int) (H0 : AHeap) (prot : Nat) (H : AHeap) (h1 : ¬(x2 < x3)) : lpOf cfg a42 0 prot H0 ([.slice x0a x0n x0c, .int .i64 x2, .int .i64 x3], H) = some (Sum.inr (Ex.exit 0, [], H)) :=
  lp_of [.e, .b false] (fun e => (decide (x2 < x3) = false) ∧ e) (by kernel_rfl) ⟨decide_eq_false h1, rfl⟩
end Go.Proofs.Ytedfombojnfbiaa.Am24
set_option linter.unusedVariables false
open Go Go.Proofs.Ytedfombojnfbiaa.Am
namespace Go.Proofs.Ytedfombojnfbiaa.Am24
theorem f34_F_0 (x0 : Int) (x1 : Int) (H : AHeap) (prot : Nat) (z5a : Option Addr) (z5n : Nat) (z5c : Nat) (H1 : AHeap) (H2 : AHeap) (x24 : ByteArray) (h1 : lpInf (lpOf cfg a34 0 prot H) ([Value.int IntKind.i64 x0, Value.int IntKind.i64 x1, Value.slice none 0 0], H) = some (Ex.exit 0, [Value.slice z5a z5n z5c], H1)) (h2 : callInf cfg 42 [Value.slice z5a z5n z5c] (List.length H) H1 = some (Value.tuple { toList := [] }, H2)) (h3 : aconv cfg.P 79 9 (Value.slice z5a z5n z5c) H2 = some (Value.string x24)) : callInf cfg 34 [.int .i64 x0, .int .i64 x1] prot H = some (Value.string x24, H) :=
  fn_of a34 [.lo (.exit 0, [.slice z5a z5n z5c], H1), .r (.tuple #[]) H2, .v (.string x24)] (fun e => (lpInf (lpOf cfg a34 0 prot H) ([Value.int IntKind.i64 x0, Value.int IntKind.i64 x1, Value.slice none 0 0], H) = some (Ex.exit 0, [Value.slice z5a z5n z5c], H1)) ∧ (callInf cfg 42 [Value.slice z5a z5n z5c] (List.length H) H1 = some (Value.tuple { toList := [] }, H2)) ∧ (aconv cfg.P 79 9 (Value.slice z5a z5n z5c) H2 = some (Value.string x24)) ∧ e) (by kernel_rfl) ⟨h1, h2, h3, rfl⟩ rfl
theorem f34_L0_0 (x0 : Int) (x1 : Int) (x5a : Option Addr) (x5n : Nat) (x5c : Nat) (H0 : AHeap) (prot : Nat) (H : AHeap) (x20a : Option Addr) (x20n : Nat) (x20c : Nat) (H2 : AHeap) (h1 : x1 > 0) (h2 : Fit IntKind.i64 (x1 - 1)) (h3 : x0 ≠ 0) (h4 : Fit IntKind.i64 (97 + (x1 - 1).tmod x0)) (h5 : aappend cfg.P (List.length H0) true 79 79 (Value.slice x5a x5n x5c) (Value.slice (some { block := List.length H, off := 0, spot := some (1 * 1) }) 1 1) (H ++ [AObj.cells [Value.int IntKind.u8 (IntKind.u8.wrap (97 + (x1 - 1).tmod x0))] 5 [Value.int IntKind.u8 (IntKind.u8.wrap (97 + (x1 - 1).tmod x0))].length OMode.row]) = some (Value.slice x20a x20n x20c, H2)) (h6 : Fit IntKind.i64 ((x1 - 1).tdiv x0)) : lpOf cfg a34 0 prot H0 ([.int .i64 x0, .int .i64 x1, .slice x5a x5n x5c], H) = some (Sum.inl ([Value.int IntKind.i64 x0, Value.int IntKind.i64 ((x1 - 1).tdiv x0), Value.slice x20a x20n x20c], H2)) :=
  lp_of [.e, .b true, .e, .e, .e, .e, .e, .r (.slice x20a x20n x20c) H2, .e, .e] (fun e => (decide (x1 > 0) = true) ∧ (Fit IntKind.i64 (x1 - 1)) ∧ (x0 ≠ 0) ∧ (Fit IntKind.i64 (97 + (x1 - 1).tmod x0)) ∧ (aappend cfg.P (List.length H0) true 79 79 (Value.slice x5a x5n x5c) (Value.slice (some { block := List.length H, off := 0, spot := some (1 * 1) }) 1 1) (H ++ [AObj.cells [Value.int IntKind.u8 (IntKind.u8.wrap (97 + (x1 - 1).tmod x0))] 5 [Value.int IntKind.u8 (IntKind.u8.wrap (97 + (x1 - 1).tmod x0))].length OMode.row]) = some (Value.slice x20a x20n x20c, H2)) ∧ (Fit IntKind.i64 (x1 - 1)) ∧ (x0 ≠ 0) ∧ (Fit IntKind.i64 ((x1 - 1).tdiv x0)) ∧ e) (by kernel_rfl) ⟨decide_eq_true h1, h2, h3, h4, h5, h2, h3, h6, rfl⟩
theorem f34_L0_1 (x0 : Int) (x1 : Int) (x5a : Option Addr) (x5n : Nat) (x5c : Nat) (H0 : AHeap) (prot : Nat) (H : AHeap) (h1 : ¬(x1 > 0)) : lpOf cfg a34 0 prot H0 ([.int .i64 x0, .int .i64 x1, .slice x5a x5n x5c], H) = some (Sum.inr (Ex.exit 0, [Value.slice x5a x5n x5c], H)) :=
  lp_of [.e, .b false] (fun e => (decide (x1 > 0) = false) ∧ e) (by kernel_rfl) ⟨decide_eq_false h1, rfl⟩
end Go.Proofs.Ytedfombojnfbiaa.Am24
namespace Go.Proofs.Ytedfombojnfbiaa.Am24
open Go Go.Proofs.Ytedfombojnfbiaa.Am

theorem T79 : ElemT cfg.P 79 5 1 1 := ⟨by kernel_rfl, by kernel_rfl, by kernel_rfl, ⟨.int .u8 0, by kernel_rfl, rfl⟩, by kernel_rfl, by omega, by omega⟩

theorem idx79 {id L n c : Nat} {i : Nat} (h : i < n) : aindexAddr cfg.P 79 (.slice (some ⟨id, 0, some L⟩) n c) (.int .i64 i) = some (.pointer (some ⟨id, i, some L⟩)) := by
  unfold aindexAddr
  rw [T79.un]
  simp only [T79.sz, Option.bind_some]
  rw [if_pos (by omega)]
  simp

theorem get1 {H : AHeap} {id e wr : Nat} {md : OMode} {cs : List Value} (hH : H[id]? = some (.cells cs e wr md)) (hwr : wr ≤ cs.length) {i : Nat} {v : Value} (hv : cs[i]? = some v) : getCells H id cs.length i 1 = some [v] := by
  have hi := (List.getElem?_eq_some_iff.1 hv).1
  unfold getCells
  rw [hH]
  simp only
  rw [if_pos ⟨hwr, Nat.le_refl _, by omega⟩, List.drop_eq_getElem_cons hi]
  rw [List.getElem?_eq_getElem hi] at hv
  simp only [List.take_succ_cons, List.take_zero, Option.some.inj hv]
theorem set1 {H : AHeap} {id e wr prot : Nat} {cs : List Value} (hH : H[id]? = some (.cells cs e wr .row)) (hp : prot ≤ id) {i : Nat} (hi : i < cs.length) {v : Value} (hv : isCell v = true) :
    setCells H prot id cs.length i [v] = some (H.set id (.cells (cs.set i v) e cs.length .row)) := by
  unfold setCells
  rw [hH]
  simp only
  rw [if_pos ⟨rfl, hp, trivial, by simp; omega, by simp [hv]⟩]
  have : putList cs i [v] = cs.set i v := by
    unfold putList
    rw [List.set_eq_take_append_cons_drop, if_pos hi]
    simp
  rw [this]

/-- Bytes as cells. -/
def bc (l : List Nat) : List Value := l.map fun (n : Nat) => Value.int .u8 (n : Int)

theorem loop42 (id n : Nat) (hn : n ≤ 1000) (H0 : AHeap) (prot : Nat) (hp : prot ≤ id) (l : List Nat) (hl : l.length = n) : ∀ (d i : Nat) (m : List Nat) (H : AHeap) (wr : Nat), i + d = n → m.length = n → wr ≤ n → H[id]? = some (.cells (bc m) 5 wr .row) →
    (∀ q, q < n → m[q]? = if q < i ∨ n - 1 - q < i then l[n - 1 - q]? else l[q]?) → i ≤ n - i + 1 →
    ∃ wr', wr' ≤ n ∧ lpInf (lpOf cfg a42 0 prot H0) ([.slice (some ⟨id, 0, some n⟩) n n, .int .i64 i, .int .i64 ((n : Int) - 1 - i)], H) = some (.exit 0, [], H.set id (.cells (bc l.reverse) 5 wr' .row))
  | d, i, m, H, wr, hid, hm, hwr, hH, hq, hi => by
    by_cases hlt : (i : Int) < (n : Int) - 1 - i
    · match d, hid with
      | d + 1, hid =>
        have hj : ((n : Int) - 1 - i) = ((n - 1 - i : Nat) : Int) := by omega
        have hbl : (bc m).length = n := by simp [bc, hm]
        have gi : m[i]? = some (m[i]'(by omega)) := List.getElem?_eq_getElem _
        have gj : m[n - 1 - i]? = some (m[n - 1 - i]'(by omega)) := List.getElem?_eq_getElem _
        have ci : (bc m)[i]? = some (.int .u8 (m[i]'(by omega) : Nat)) := by simp [bc, gi]
        have cj : (bc m)[n - 1 - i]? = some (.int .u8 (m[n - 1 - i]'(by omega) : Nat)) := by simp [bc, gj]
        have r1 := get1 hH (by rw [hbl]; exact hwr) cj
        have r2 := get1 hH (by rw [hbl]; exact hwr) ci
        have w1 := set1 (i := i) (v := .int .u8 (m[n - 1 - i]'(by omega) : Nat)) hH hp (by omega) rfl
        have hH1 := get_set_self (y := .cells ((bc m).set i (.int .u8 (m[n - 1 - i]'(by omega) : Nat))) 5 (bc m).length .row) hH
        have w2 := set1 (i := n - 1 - i) (v := .int .u8 (m[i]'(by omega) : Nat)) hH1 hp (by simp; omega) rfl
        rw [List.set_set] at w2
        simp only [List.length_set, hbl] at w1 w2 r1 r2
        have step := f42_L0_0 (some ⟨id, 0, some n⟩) n n i ((n : Int) - 1 - i) H0 prot H id (n - 1 - i) n _ id i n _ id i n _ id (n - 1 - i) n _ hlt (by rw [hj]; exact idx79 (by omega)) r1 (idx79 (by omega)) r2 (idx79 (by omega)) rfl w1 (by rw [hj]; exact idx79 (by omega)) rfl w2 (fit64 (by omega) (by omega)) (fit64 (by omega) (by omega))
        have hcells : ((bc m).set i (.int .u8 (m[n - 1 - i]'(by omega) : Nat))).set (n - 1 - i) (.int .u8 (m[i]'(by omega) : Nat)) = bc ((m.set i (m[n - 1 - i]'(by omega))).set (n - 1 - i) (m[i]'(by omega))) := by
          simp [bc, List.map_set]
        rw [hcells] at step
        obtain ⟨wr', h1, h2⟩ := loop42 id n hn H0 prot hp l hl d (i + 1) ((m.set i (m[n - 1 - i]'(by omega))).set (n - 1 - i) (m[i]'(by omega))) _ n (by omega) (by simp [hm]) (Nat.le_refl _) (get_set_self hH) (by
          intro q hqn
          rw [List.getElem?_set, List.getElem?_set]
          by_cases e1 : n - 1 - i = q
          · subst e1
            rw [if_pos rfl, if_pos (by simp; omega), if_pos (by omega), ← gi, hq i (by omega), if_neg (by omega)]
            congr 1
            omega
          · rw [if_neg e1]
            by_cases e2 : i = q
            · subst e2
              rw [if_pos rfl, if_pos (by omega), if_pos (by omega), ← gj, hq (n - 1 - i) (by omega), if_neg (by omega)]
            · rw [if_neg e2, hq q hqn]
              by_cases e3 : q < i ∨ n - 1 - q < i
              · rw [if_pos e3, if_pos (by omega)]
              · rw [if_neg e3, if_neg (by omega)]) (by omega)
        rw [List.set_set] at h2
        refine ⟨wr', h1, lp_next step ?_⟩
        have e3 : ((n : Int) - 1 - i) - 1 = (n : Int) - 1 - ((i + 1 : Nat) : Int) := by omega
        have e4 : (i : Int) + 1 = ((i + 1 : Nat) : Int) := by omega
        rw [e3, e4]
        exact h2
      | 0, hid => omega
    · have hrev : m = l.reverse := by
        apply List.ext_getElem?
        intro q
        by_cases hqn : q < n
        · rw [hq q hqn, List.getElem?_reverse (by omega), hl]
          split
          · rfl
          · congr 1; omega
        · rw [List.getElem?_eq_none (by omega), List.getElem?_eq_none (by simp; omega)]
      refine ⟨wr, hwr, ?_⟩
      rw [← hrev, set_same hH]
      exact lp_last (f42_L0_1 _ n n i ((n : Int) - 1 - i) H0 prot H (by omega))

theorem c42 {id n : Nat} (hn : n ≤ 1000) {H : AHeap} {prot : Nat} (hp : prot ≤ id) {l : List Nat} (hl : l.length = n) {wr : Nat} (hwr : wr ≤ n) (hH : H[id]? = some (.cells (bc l) 5 wr .row)) :
    ∃ wr', wr' ≤ n ∧ callInf cfg 42 [.slice (some ⟨id, 0, some n⟩) n n] prot H = some (.tuple #[], H.set id (.cells (bc l.reverse) 5 wr' .row)) := by
  obtain ⟨wr', h1, h2⟩ := loop42 id n hn H prot hp l hl n 0 l H wr (by omega) hl hwr hH (fun q _ => by rw [if_neg (by omega)]) (by omega)
  refine ⟨wr', h1, f42_F_0 _ n n H prot _ (fit64 (by omega) (by omega)) ?_⟩
  have e : (n : Int) - 1 - ((0 : Nat) : Int) = (n : Int) - 1 := by omega
  rw [e] at h2
  exact h2

theorem c42n {a : Option Addr} {H : AHeap} {prot : Nat} (c : Nat) : callInf cfg 42 [.slice a 0 c] prot H = some (.tuple #[], H) :=
  f42_F_0 a 0 c H prot H (fit64 (by omega) (by omega)) (lp_last (f42_L0_1 a 0 c 0 _ H prot H (by omega)))
end Go.Proofs.Ytedfombojnfbiaa.Am24
namespace Go.Proofs.Ytedfombojnfbiaa.Am24
open Go Go.Proofs.Ytedfombojnfbiaa.Am

/-- The letters of a number's word, from the last one. -/
def digs (k : Nat) : Nat → Nat → List Nat
  | 0, _ => []
  | f + 1, i => if i = 0 then [] else (97 + (i - 1) % k) :: digs k f ((i - 1) / k)
def strOf (l : List Nat) : ByteArray := ⟨(l.map fun n => UInt8.ofNat n).toArray⟩
/-- The word of a number. -/
def txt (k i : Nat) : ByteArray := strOf (digs k i i).reverse

theorem digs_fuel {k : Nat} (hk : 1 ≤ k) : ∀ f g i, i ≤ f → i ≤ g → digs k f i = digs k g i
  | 0, 0, i, _, _ => rfl
  | 0, g + 1, i, h, _ => by have : i = 0 := by omega
                            subst this; simp [digs]
  | f + 1, 0, i, _, h => by have : i = 0 := by omega
                            subst this; simp [digs]
  | f + 1, g + 1, i, h1, h2 => by
    simp only [digs]
    split
    · rfl
    · have : (i - 1) / k ≤ i - 1 := Nat.div_le_self _ _
      rw [digs_fuel hk f g _ (by omega) (by omega)]
theorem digs_len {k : Nat} (hk : 1 ≤ k) : ∀ f i, (digs k f i).length ≤ i
  | 0, i => by simp [digs]
  | f + 1, i => by
    simp only [digs]
    split
    · simp
    · have : (i - 1) / k ≤ i - 1 := Nat.div_le_self _ _
      have := digs_len hk f ((i - 1) / k)
      simp only [List.length_cons]
      omega

theorem bytes_bc : ∀ l : List Nat, bytesOfCells (bc l) = some (l.map fun n => UInt8.ofNat n)
  | [] => rfl
  | n :: l => by
    have ih := bytes_bc l
    unfold bc at ih ⊢
    simp only [List.map_cons, bytesOfCells, ih, Option.map_some, Int.toNat_natCast]

theorem u8_small {m : Nat} (h : m < 256) : IntKind.u8.wrap (m : Int) = (m : Int) := by
  simp only [IntKind.wrap]
  show (if (false && decide ((m : Int) % (256 : Int) ≥ (128 : Int))) = true then (m : Int) % (256 : Int) - 256 else (m : Int) % (256 : Int)) = _
  rw [if_neg (by simp)]
  omega

theorem loop34 {k : Nat} (hk1 : 1 ≤ k) (hk : k ≤ 8) (H0 : AHeap) (prot : Nat) : ∀ (f i : Nat) (x : Value) (o : Option Nat) (n : Nat) (pre : List Nat) (H : AHeap), i ≤ f → n + i ≤ 100000 → Own H 5 1 x o n (bc pre) → (∀ id, o = some id → H0.length ≤ id) → H0.length ≤ H.length →
    ∃ x' o' n' H', lpInf (lpOf cfg a34 0 prot H0) ([.int .i64 k, .int .i64 i, x], H) = some (.exit 0, [x'], H') ∧ Own H' 5 1 x' o' n' (bc (pre ++ digs k f i)) ∧ (∀ id, o' = some id → H0.length ≤ id)
  | f, 0, x, o, n, pre, H, hf, hn, hx, ho, hH => by
    obtain ⟨a, c, rfl⟩ := hx.len
    refine ⟨_, o, n, H, lp_last (f34_L0_1 k 0 a n c H0 prot H (by omega)), ?_, ho⟩
    have : digs k f 0 = [] := by cases f <;> simp [digs]
    rw [this, List.append_nil]
    exact hx
  | 0, i + 1, x, o, n, pre, H, hf, hn, hx, ho, hH => by omega
  | f + 1, i + 1, x, o, n, pre, H, hf, hn, hx, ho, hH => by
    obtain ⟨a, c, rfl⟩ := hx.len
    have e0 : ((i + 1 : Nat) : Int) - 1 = (i : Int) := by omega
    have e1 : (((i + 1 : Nat) : Int) - 1).tmod (k : Int) = ((i % k : Nat) : Int) := by rw [e0, Int.ofNat_tmod]
    have e2 : (((i + 1 : Nat) : Int) - 1).tdiv (k : Int) = ((i / k : Nat) : Int) := by rw [e0, Int.ofNat_tdiv]
    have hmod : i % k < k := Nat.mod_lt _ (by omega)
    have hdiv : i / k ≤ i := Nat.div_le_self _ _
    have e3 : IntKind.u8.wrap (97 + (((i + 1 : Nat) : Int) - 1).tmod (k : Int)) = ((97 + i % k : Nat) : Int) := by
      rw [e1, show (97 : Int) + ((i % k : Nat) : Int) = ((97 + i % k : Nat) : Int) by omega]
      exact u8_small (by omega)
    obtain ⟨x', o', H', h1, h2, h3, h4⟩ := own_append T79 hx (ecs := [.int .u8 ((97 + i % k : Nat) : Int)]) rfl rfl (prot := H0.length) ho (by omega) (L := 1 * 1) rfl (el := 1) rfl
    obtain ⟨a', c', rfl⟩ := h2.len
    have step := f34_L0_0 k ((i + 1 : Nat) : Int) a n c H0 prot H a' (n + 1) c' H' (by omega) (fit64 (by omega) (by omega)) (by omega) (by rw [e1]; exact fit64 (by omega) (by omega)) (by rw [e3]; exact h1) (by rw [e2]; exact fit64 (Int.le_trans (by decide) (Int.natCast_nonneg (i / k))) (Int.le_trans (Int.ofNat_le.2 hdiv) (by omega)))
    rw [e2] at step
    have hpre : bc pre ++ [.int .u8 ((97 + i % k : Nat) : Int)] = bc (pre ++ [97 + i % k]) := by simp [bc]
    rw [hpre] at h2
    have ho' : ∀ id, some o' = some id → H0.length ≤ id := fun id hid => by
      cases hid
      rcases h4 with h4 | ⟨_, h4⟩
      · exact ho _ h4
      · omega
    obtain ⟨x2, o2, n2, H2, g1, g2, g3⟩ := loop34 hk1 hk H0 prot f (i / k) _ (some o') (n + 1) (pre ++ [97 + i % k]) H' (by omega) (by omega) h2 ho' (Nat.le_trans hH h3.1)
    refine ⟨x2, o2, n2, H2, lp_next step g1, ?_, g3⟩
    have : digs k (f + 1) (i + 1) = (97 + i % k) :: digs k f (i / k) := by simp [digs]
    rw [this]
    simpa using g2

theorem c34 {k : Nat} (hk1 : 1 ≤ k) (hk : k ≤ 8) {i : Nat} (hi : (digs k i i).length ≤ 1000) (hi2 : i ≤ 100000) (prot : Nat) (H : AHeap) : callInf cfg 34 [.int .i64 k, .int .i64 i] prot H = some (.string (txt k i), H) := by
  obtain ⟨x, o, n, H1, h1, h2, h3⟩ := loop34 hk1 hk H prot i i (.slice none 0 0) none 0 [] H (Nat.le_refl _) (by omega) ⟨rfl, rfl, .inl rfl⟩ (fun _ h => by cases h) (Nat.le_refl _)
  simp only [List.nil_append] at h2
  have hn : n = (digs k i i).length := by have := h2.1; simp [bc] at this; exact this.symm
  have h2' := h2.2
  cases o with
  | none =>
    obtain ⟨rfl, hx⟩ := h2'
    have hnil : digs k i i = [] := List.eq_nil_of_length_eq_zero hn.symm
    have ht : txt k i = ⟨#[]⟩ := by unfold txt; rw [hnil]; rfl
    rcases hx with rfl | rfl
    · refine f34_F_0 k i H prot none 0 0 H1 H1 (txt k i) h1 (c42n 0) ?_
      rw [ht]; kernel_rfl
    · refine f34_F_0 k i H prot _ 0 0 H1 H1 (txt k i) h1 (c42n 0) ?_
      rw [ht]; kernel_rfl
  | some id =>
    obtain ⟨hpos, rfl, wr, hwr, hH⟩ := h2'
    have hbl : (bc (digs k i i)).length = n := by simp [bc, hn]
    rw [hbl] at h1 hwr
    obtain ⟨wr', w1, w2⟩ := c42 (n := n) (by omega) (h3 id rfl) hn.symm hwr hH
    refine f34_F_0 k i H prot _ n n H1 _ (txt k i) h1 w2 ?_
    have hg := get_set_self (y := .cells (bc (digs k i i).reverse) 5 wr' .row) hH
    have hcells : cellsAt 1 (.slice (some ⟨id, 0, some n⟩) n n) (H1.set id (.cells (bc (digs k i i).reverse) 5 wr' .row)) = some (bc (digs k i i).reverse) := by
      simp only [cellsAt]
      unfold getCells
      rw [hg]
      have hl : (bc (digs k i i).reverse).length = n := by simp [bc, hn]
      simp only [Nat.mul_one, Nat.zero_add, hl, Nat.le_refl, and_true, w1, if_true, List.drop_zero]
      rw [List.take_of_length_le (by omega)]
    unfold aconv
    have u1 : cfg.P.underlying 79 = some (.slice 5) := by kernel_rfl
    have u2 : cfg.P.underlying 9 = some .string := by kernel_rfl
    have u3 : cfg.P.underlying 5 = some (.int .u8) := by kernel_rfl
    rw [u1, u2]
    simp only
    rw [u3]
    simp only
    rw [hcells, Option.bind_some, bytes_bc]
    rfl
end Go.Proofs.Ytedfombojnfbiaa.Am24
namespace Go.Proofs.Ytedfombojnfbiaa.Am24
open Go Go.Proofs.Ytedfombojnfbiaa.Am

theorem digs_step {k i c : Nat} (hc : c < k) : digs k (k * i + c + 1) (k * i + c + 1) = (97 + c) :: digs k i i := by
  have e1 : (k * i + c) % k = c := by rw [Nat.mul_add_mod]; exact Nat.mod_eq_of_lt hc
  have e2 : (k * i + c) / k = i := by rw [Nat.mul_add_div (by omega), Nat.div_eq_of_lt hc]; rfl
  simp only [digs]
  rw [if_neg (by omega), Nat.add_sub_cancel, e1, e2]
  congr 1
  have : i ≤ k * i + c := by
    have := Nat.mul_le_mul (show 1 ≤ k by omega) (Nat.le_refl i)
    omega
  exact digs_fuel (by omega) _ _ _ this (Nat.le_refl _)

/-- The letters of the word of a number. -/
def wl (k i : Nat) : List Nat := (digs k i i).reverse
theorem wl_zero (k : Nat) : wl k 0 = [] := rfl
theorem wl_step {k i c : Nat} (hc : c < k) : wl k (k * i + c + 1) = wl k i ++ [97 + c] := by unfold wl; rw [digs_step hc]; simp
theorem txt_eq (k i : Nat) : txt k i = strOf (wl k i) := rfl

/-- Each number but 0 has one ahead of it. -/
theorem pred_of {k i : Nat} (hk : 1 ≤ k) (hi : 0 < i) : ∃ j c, c < k ∧ i = k * j + c + 1 ∧ j < i := by
  refine ⟨(i - 1) / k, (i - 1) % k, Nat.mod_lt _ (by omega), ?_, ?_⟩
  · have := Nat.div_add_mod (i - 1) k
    omega
  · have := Nat.div_le_self (i - 1) k
    omega

/-- Words of m letters are those from sho k m on, below sho k (m + 1). -/
theorem wl_len {k : Nat} (hk : 1 ≤ k) : ∀ (i m : Nat), (wl k i).length = m ↔ sho k m ≤ i ∧ i < sho k (m + 1) := by
  intro i
  induction i using Nat.strongRecOn with
  | _ i ih =>
    intro m
    by_cases hi : i = 0
    · subst hi
      rw [wl_zero]
      cases m with
      | zero => simp [sho]
      | succ m =>
        have := sho_succ k m
        simp only [List.length_nil]
        constructor
        · intro h; omega
        · intro h; omega
    · obtain ⟨j, c, hc, he, hj⟩ := pred_of hk (Nat.pos_of_ne_zero hi)
      rw [he, wl_step hc]
      simp only [List.length_append, List.length_cons, List.length_nil]
      cases m with
      | zero =>
        have e1 : sho k 1 = 1 := by simp [sho]
        constructor
        · intro h; omega
        · intro h; rw [e1] at h; omega
      | succ m =>
        have h := ih j hj m
        rw [sho_succ k m, sho_succ k (m + 1)]
        have m1 : ∀ a, a ≤ j ↔ 1 + k * a ≤ k * j + c + 1 := fun a => by
          constructor
          · intro h
            have := Nat.mul_le_mul (Nat.le_refl k) h
            omega
          · intro h
            cases Nat.lt_or_ge j a with
            | inl hlt =>
              have := Nat.mul_le_mul (Nat.le_refl k) (show j + 1 ≤ a by omega)
              rw [Nat.mul_add] at this
              omega
            | inr hge => exact hge
        have m2 : ∀ a, j < a ↔ k * j + c + 1 < 1 + k * a := fun a => by
          have := m1 a
          omega
        rw [← m1, ← m2]
        constructor
        · intro e; exact h.1 (by omega)
        · intro e; have := h.2 e; omega
end Go.Proofs.Ytedfombojnfbiaa.Am24
namespace Go.Proofs.Ytedfombojnfbiaa.Am24
open Go Go.Proofs.Ytedfombojnfbiaa.Am

def firstW : List Nat := addW (List.replicate 74 0) 0
theorem firstOK : KOK firstW := zeroOK.add 0

theorem c38 (prot : Nat) (H : AHeap) : callInf cfg 38 [] prot H = some (kval firstW, H) := by
  let H1 := H ++ [kobj (List.replicate 74 0)]
  let H2 := H1 ++ [kobj (List.replicate 74 0)]
  have l1 : H1.length = H.length + 1 := by simp [H1]
  have l2 : H2.length = H.length + 2 := by simp [H2, l1]
  have g0 : H2[H.length]? = some (kobj (List.replicate 74 0)) := by
    show (H1 ++ _)[H.length]? = _
    rw [List.getElem?_append_left (by omega)]
    exact append_get.1
  have g1 : H2[H1.length]? = some (kobj (List.replicate 74 0)) := append_get.1
  let H3 := H2.set H1.length (kobj firstW)
  have g03 : H3[H.length]? = some (kobj (List.replicate 74 0)) := by rw [show H3 = H2.set H1.length (kobj firstW) from rfl, get_set_ne (by omega)]; exact g0
  let H4 := H3.set H.length (kobj firstW)
  refine f38_F_0 H prot H.length 0 74 H1 H1.length 0 74 H2 H3 (kc firstW).toArray H4 (kc firstW).toArray _ _ (alloc65 H) (alloc65 H1) ?_ ?_ ?_ ?_ ?_ (pfin_k rfl H H4 firstW)
  · exact c44 zeroOK g1 (Nat.le_refl _) (i := 0) (by omega) (by omega)
  · exact kget_all firstOK (get_set_self g1)
  · show (kc firstW).length = 74; rw [kc_len, firstOK.1]
  · exact kset_all zeroOK firstOK g03 (Nat.le_refl _)
  · exact kget_all firstOK (get_set_self g03)

/-- A word over k letters. -/
def Wd (k : Nat) (w : ByteArray) : Prop := ∀ i, i < w.size → 97 ≤ (w.get! i).toNat ∧ (w.get! i).toNat < 97 + k
def ltr (w : ByteArray) (i : Nat) : Nat := (w.get! i).toNat - 97

def kOf (k n : Nat) (w : ByteArray) : Nat → Nat → List Nat → List Nat
  | 0, _, ws => ws
  | d + 1, i, ws => kOf k n w d (i + 1) (withK k n (ltr w i) ws)
theorem kOf_ok {k n : Nat} {w : ByteArray} : ∀ d i ws, KOK ws → KOK (kOf k n w d i ws)
  | 0, i, ws, h => h
  | d + 1, i, ws, h => kOf_ok d (i + 1) _ (withK_ok h)

theorem u8_sub {x : Nat} (h1 : 97 ≤ x) (h2 : x < 256) : IntKind.u8.wrap ((x : Int) - 97) = ((x - 97 : Nat) : Int) := by
  simp only [IntKind.wrap]
  show (if (false && decide (((x : Int) - 97) % (256 : Int) ≥ (128 : Int))) = true then ((x : Int) - 97) % (256 : Int) - 256 else ((x : Int) - 97) % (256 : Int)) = _
  rw [if_neg (by simp)]
  omega

theorem loop30 {k n : Nat} (hk : k ≤ 8) (hn : n ≤ 4) {w : ByteArray} (hw : Wd k w) (hs : w.size < 9223372036854775807) (p6 p7 : Nat) (H0 : AHeap) (prot : Nat) (hp : H0.length ≤ p7) : ∀ (d i : Nat) (ws : List Nat) (H : AHeap), i + d = w.size → KOK ws →
    H[p7]? = some (kobj ws) →
    lpInf (lpOf cfg a30 0 prot H0) ([.int .i64 k, .int .i64 n, .string w, .pointer (some ⟨p6, 0, some 74⟩), .pointer (some ⟨p7, 0, some 74⟩), .int .i64 w.size, .int .i64 i], H) =
      some (.exit 0, [.pointer (some ⟨p6, 0, some 74⟩), .pointer (some ⟨p7, 0, some 74⟩)], H.set p7 (kobj (kOf k n w d i ws)))
  | 0, i, ws, H, hi, h, h7 => by
    simp only [kOf]
    rw [set_same h7]
    exact lp_last (f30_L0_1 k n w p6 0 74 p7 0 74 w.size i H0 prot H (by omega))
  | d + 1, i, ws, H, hi, h, h7 => by
    have hc := hw i (by omega)
    have hlt : (w.get! i).toNat < 256 := (w.get! i).toNat_lt
    have e : IntKind.u8.wrap (((w.get! ((i : Int).toNat)).toNat : Int) - 97) = (ltr w i : Nat) := by
      rw [Int.toNat_natCast, u8_sub hc.1 hlt]; rfl
    have hl : ltr w i < k := by unfold ltr; omega
    have step := f30_L0_0 k n w p6 0 74 p7 0 74 w.size i H0 prot H (kc ws).toArray (kc (withK k n (ltr w i) ws)).toArray (H.set p7 (kobj (withK k n (ltr w i) ws))) (by omega)
      (kget_all h h7) (by omega) (by omega) (by rw [e]; exact fit64 (by omega) (by omega)) (by rw [e]; exact c39 hk hn hl h _ _) (by show (kc _).length = 74; rw [kc_len, (withK_ok h).1]) (kset_all h (withK_ok h) h7 hp) (fit64 (by omega) (by omega))
    have ih := loop30 hk hn hw hs p6 p7 H0 prot hp d (i + 1) _ _ (by omega) (withK_ok (k := k) (n := n) (l := ltr w i) h) (get_set_self h7)
    rw [List.set_set] at ih
    exact lp_next step ih

/-- The bits of a word's pieces. -/
def kindOf (k n : Nat) (w : ByteArray) : List Nat := kOf k n w w.size 0 firstW
theorem kindOf_ok (k n : Nat) (w : ByteArray) : KOK (kindOf k n w) := kOf_ok _ _ _ firstOK

theorem c30 {k n : Nat} (hk : k ≤ 8) (hn : n ≤ 4) {w : ByteArray} (hw : Wd k w) (hs : w.size < 9223372036854775807) (prot : Nat) (H : AHeap) :
    callInf cfg 30 [.int .i64 k, .int .i64 n, .string w] prot H = some (kval (kindOf k n w), H) := by
  let H1 := H ++ [kobj (List.replicate 74 0)]
  let H2 := H1 ++ [kobj (List.replicate 74 0)]
  have l1 : H1.length = H.length + 1 := by simp [H1]
  have l2 : H2.length = H.length + 2 := by simp [H2, l1]
  have g0 : H2[H.length]? = some (kobj (List.replicate 74 0)) := by
    show (H1 ++ _)[H.length]? = _
    rw [List.getElem?_append_left (by omega)]
    exact append_get.1
  have g1 : H2[H1.length]? = some (kobj (List.replicate 74 0)) := append_get.1
  let H3 := H2.set H1.length (kobj firstW)
  have g13 : H3[H1.length]? = some (kobj firstW) := get_set_self g1
  have g03 : H3[H.length]? = some (kobj (List.replicate 74 0)) := by rw [show H3 = H2.set H1.length (kobj firstW) from rfl, get_set_ne (by omega)]; exact g0
  let ys := kindOf k n w
  have hy : KOK ys := kindOf_ok k n w
  let H4 := H3.set H1.length (kobj ys)
  have g04 : H4[H.length]? = some (kobj (List.replicate 74 0)) := by rw [show H4 = H3.set H1.length (kobj ys) from rfl, get_set_ne (by omega)]; exact g03
  let H5 := H4.set H.length (kobj ys)
  refine f30_F_0 k n w H prot H.length 0 74 H1 (kc firstW).toArray H1.length 0 74 H2 H3 H.length 0 74 H1.length 0 74 H4 (kc ys).toArray H5 (kc ys).toArray _ _ (alloc65 H) (c38 _ _) (alloc65 H1) ?_ ?_ ?_ ?_ ?_ ?_ ?_ (pfin_k rfl H H5 ys)
  · show (kc firstW).length = 74; rw [kc_len, firstOK.1]
  · exact kset_all zeroOK firstOK g1 (by omega)
  · exact loop30 hk hn hw hs H.length H1.length H prot (by omega) w.size 0 firstW H3 (by omega) firstOK g13
  · exact kget_all hy (get_set_self g13)
  · show (kc ys).length = 74; rw [kc_len, hy.1]
  · exact kset_all zeroOK hy g04 (Nat.le_refl _)
  · exact kget_all hy (get_set_self g04)
end Go.Proofs.Ytedfombojnfbiaa.Am24
set_option linter.unusedVariables false
open Go Go.Proofs.Ytedfombojnfbiaa.Am
namespace Go.Proofs.Ytedfombojnfbiaa.Am24
theorem f37_F_0 (x0 : Int) (x1 : ByteArray) (H : AHeap) (prot : Nat) (h1 : x0 < 1) : callInf cfg 37 [.int .i64 x0, .string x1] prot H = some (Value.int IntKind.i64 20, H) :=
  fn_of a37 [.e, .b true, .b true, .b true, .b true] (fun e => (decide (x0 < 1) = true) ∧ (decide (x0 < 1) = true) ∧ (decide (x0 < 1) = true) ∧ (true = true) ∧ e) (by kernel_rfl) ⟨decide_eq_true h1, decide_eq_true h1, decide_eq_true h1, rfl, rfl⟩ rfl
theorem f37_F_1 (x0 : Int) (x1 : ByteArray) (H : AHeap) (prot : Nat) (h1 : ¬(x0 < 1)) (h2 : x0 > 8) : callInf cfg 37 [.int .i64 x0, .string x1] prot H = some (Value.int IntKind.i64 20, H) :=
  fn_of a37 [.e, .b false, .b false, .e, .b false, .b true] (fun e => (decide (x0 < 1) = false) ∧ (decide (x0 < 1) = false) ∧ (decide (x0 < 1) = false) ∧ (decide (x0 > 8) = true) ∧ e) (by kernel_rfl) ⟨decide_eq_false h1, decide_eq_false h1, decide_eq_false h1, decide_eq_true h2, rfl⟩ rfl
theorem f37_F_2 (x0 : Int) (x1 : ByteArray) (H : AHeap) (prot : Nat) (z4 : Value) (H1 : AHeap) (h1 : ¬(x0 < 1)) (h2 : ¬(x0 > 8)) (h3 : lpInf (lpOf cfg a37 0 prot H) ([Value.int IntKind.i64 x0, Value.pointer (some { block := List.length H, off := 0, spot := some 0 })], H ++ [AObj.iter x1 0]) = some (Ex.exit 0, [z4], H1)) : callInf cfg 37 [.int .i64 x0, .string x1] prot H = some (Value.int IntKind.i64 0, H) :=
  fn_of a37 [.e, .b false, .b false, .e, .b false, .b false, .e, .lo (.exit 0, [z4], H1)] (fun e => (decide (x0 < 1) = false) ∧ (decide (x0 < 1) = false) ∧ (decide (x0 < 1) = false) ∧ (decide (x0 > 8) = false) ∧ (lpInf (lpOf cfg a37 0 prot H) ([Value.int IntKind.i64 x0, Value.pointer (some { block := List.length H, off := 0, spot := some 0 })], H ++ [AObj.iter x1 0]) = some (Ex.exit 0, [z4], H1)) ∧ e) (by kernel_rfl) ⟨decide_eq_false h1, decide_eq_false h1, decide_eq_false h1, decide_eq_false h2, h3, rfl⟩ rfl
theorem f37_F_3 (x0 : Int) (x1 : ByteArray) (H : AHeap) (prot : Nat) (z4 : Int) (H1 : AHeap) (h1 : ¬(x0 < 1)) (h2 : ¬(x0 > 8)) (h3 : lpInf (lpOf cfg a37 0 prot H) ([Value.int IntKind.i64 x0, Value.pointer (some { block := List.length H, off := 0, spot := some 0 })], H ++ [AObj.iter x1 0]) = some (Ex.ret, [Value.int IntKind.i64 z4], H1)) : callInf cfg 37 [.int .i64 x0, .string x1] prot H = some (Value.int IntKind.i64 z4, H) :=
  fn_of a37 [.e, .b false, .b false, .e, .b false, .b false, .e, .lo (.ret, [.int .i64 z4], H1)] (fun e => (decide (x0 < 1) = false) ∧ (decide (x0 < 1) = false) ∧ (decide (x0 < 1) = false) ∧ (decide (x0 > 8) = false) ∧ (lpInf (lpOf cfg a37 0 prot H) ([Value.int IntKind.i64 x0, Value.pointer (some { block := List.length H, off := 0, spot := some 0 })], H ++ [AObj.iter x1 0]) = some (Ex.ret, [Value.int IntKind.i64 z4], H1)) ∧ e) (by kernel_rfl) ⟨decide_eq_false h1, decide_eq_false h1, decide_eq_false h1, decide_eq_false h2, h3, rfl⟩ rfl
theorem f37_L0_0 (x0 : Int) (x14p : Nat) (H0 : AHeap) (prot : Nat) (H : AHeap) (x15i : Int) (x15r : Int) (H2 : AHeap) (h1 : anext (List.length H0) (Value.pointer (some { block := x14p, off := 0, spot := some 0 })) H = some (Value.tuple { toList := [Value.bool true, Value.int IntKind.i64 x15i, Value.int IntKind.i32 x15r] }, H2)) (h2 : x15r < 97) : lpOf cfg a37 0 prot H0 ([.int .i64 x0, .pointer (some ⟨x14p, 0, some 0⟩)], H) = some (Sum.inr (Ex.ret, [Value.int IntKind.i64 21], H2)) :=
  lp_of [.r (.tuple #[.bool true, .int .i64 x15i, .int .i32 x15r]) H2, .b true, .e, .b true, .b true, .b true, .b true, .b true, .b true, .b true] (fun e => (anext (List.length H0) (Value.pointer (some { block := x14p, off := 0, spot := some 0 })) H = some (Value.tuple { toList := [Value.bool true, Value.int IntKind.i64 x15i, Value.int IntKind.i32 x15r] }, H2)) ∧ (true = true) ∧ (decide (x15r < 97) = true) ∧ (decide (x15r < 97) = true) ∧ (decide (x15r < 97) = true) ∧ (decide (x15r < 97) = true) ∧ (decide (x15r < 97) = true) ∧ (decide (x15r < 97) = true) ∧ (true = true) ∧ e) (by kernel_rfl) ⟨h1, rfl, decide_eq_true h2, decide_eq_true h2, decide_eq_true h2, decide_eq_true h2, decide_eq_true h2, decide_eq_true h2, rfl, rfl⟩
theorem f37_L0_1 (x0 : Int) (x14p : Nat) (H0 : AHeap) (prot : Nat) (H : AHeap) (x15i : Int) (x15r : Int) (H2 : AHeap) (h1 : anext (List.length H0) (Value.pointer (some { block := x14p, off := 0, spot := some 0 })) H = some (Value.tuple { toList := [Value.bool true, Value.int IntKind.i64 x15i, Value.int IntKind.i32 x15r] }, H2)) (h2 : ¬(x15r < 97)) (h3 : Fit IntKind.i32 x0) (h4 : Fit IntKind.i32 (97 + x0)) (h5 : x15r ≥ 97 + x0) : lpOf cfg a37 0 prot H0 ([.int .i64 x0, .pointer (some ⟨x14p, 0, some 0⟩)], H) = some (Sum.inr (Ex.ret, [Value.int IntKind.i64 21], H2)) :=
  lp_of [.r (.tuple #[.bool true, .int .i64 x15i, .int .i32 x15r]) H2, .b true, .e, .b false, .b false, .b false, .e, .b false, .e, .b false, .e, .b false, .b true] (fun e => (anext (List.length H0) (Value.pointer (some { block := x14p, off := 0, spot := some 0 })) H = some (Value.tuple { toList := [Value.bool true, Value.int IntKind.i64 x15i, Value.int IntKind.i32 x15r] }, H2)) ∧ (true = true) ∧ (decide (x15r < 97) = false) ∧ (decide (x15r < 97) = false) ∧ (decide (x15r < 97) = false) ∧ (Fit IntKind.i32 x0) ∧ (decide (x15r < 97) = false) ∧ (Fit IntKind.i32 (97 + x0)) ∧ (decide (x15r < 97) = false) ∧ (decide (x15r < 97) = false) ∧ (decide (x15r ≥ 97 + x0) = true) ∧ e) (by kernel_rfl) ⟨h1, rfl, decide_eq_false h2, decide_eq_false h2, decide_eq_false h2, h3, decide_eq_false h2, h4, decide_eq_false h2, decide_eq_false h2, decide_eq_true h5, rfl⟩
theorem f37_L0_2 (x0 : Int) (x14p : Nat) (H0 : AHeap) (prot : Nat) (H : AHeap) (x15i : Int) (x15r : Int) (H2 : AHeap) (h1 : anext (List.length H0) (Value.pointer (some { block := x14p, off := 0, spot := some 0 })) H = some (Value.tuple { toList := [Value.bool true, Value.int IntKind.i64 x15i, Value.int IntKind.i32 x15r] }, H2)) (h2 : ¬(x15r < 97)) (h3 : Fit IntKind.i32 x0) (h4 : Fit IntKind.i32 (97 + x0)) (h5 : ¬(x15r ≥ 97 + x0)) : lpOf cfg a37 0 prot H0 ([.int .i64 x0, .pointer (some ⟨x14p, 0, some 0⟩)], H) = some (Sum.inl ([Value.int IntKind.i64 x0, Value.pointer (some { block := x14p, off := 0, spot := some 0 })], H2)) :=
  lp_of [.r (.tuple #[.bool true, .int .i64 x15i, .int .i32 x15r]) H2, .b true, .e, .b false, .b false, .b false, .e, .b false, .e, .b false, .e, .b false, .b false] (fun e => (anext (List.length H0) (Value.pointer (some { block := x14p, off := 0, spot := some 0 })) H = some (Value.tuple { toList := [Value.bool true, Value.int IntKind.i64 x15i, Value.int IntKind.i32 x15r] }, H2)) ∧ (true = true) ∧ (decide (x15r < 97) = false) ∧ (decide (x15r < 97) = false) ∧ (decide (x15r < 97) = false) ∧ (Fit IntKind.i32 x0) ∧ (decide (x15r < 97) = false) ∧ (Fit IntKind.i32 (97 + x0)) ∧ (decide (x15r < 97) = false) ∧ (decide (x15r < 97) = false) ∧ (decide (x15r ≥ 97 + x0) = false) ∧ e) (by kernel_rfl) ⟨h1, rfl, decide_eq_false h2, decide_eq_false h2, decide_eq_false h2, h3, decide_eq_false h2, h4, decide_eq_false h2, decide_eq_false h2, decide_eq_false h5, rfl⟩
theorem f37_L0_3 (x0 : Int) (x14p : Nat) (H0 : AHeap) (prot : Nat) (H : AHeap) (H2 : AHeap) (h1 : anext (List.length H0) (Value.pointer (some { block := x14p, off := 0, spot := some 0 })) H = some (Value.tuple { toList := [Value.bool false] }, H2)) : lpOf cfg a37 0 prot H0 ([.int .i64 x0, .pointer (some ⟨x14p, 0, some 0⟩)], H) = some (Sum.inr (Ex.exit 0, [Value.tuple { toList := [] }], H2)) :=
  lp_of [.r (.tuple #[.bool false]) H2, .b false] (fun e => (anext (List.length H0) (Value.pointer (some { block := x14p, off := 0, spot := some 0 })) H = some (Value.tuple { toList := [Value.bool false] }, H2)) ∧ (false = false) ∧ e) (by kernel_rfl) ⟨h1, rfl, rfl⟩
end Go.Proofs.Ytedfombojnfbiaa.Am24
set_option linter.unusedVariables false
open Go Go.Proofs.Ytedfombojnfbiaa.Am
namespace Go.Proofs.Ytedfombojnfbiaa.Am24
theorem f31_F_0 (x0 : Int) (x1 : ByteArray) (H : AHeap) (prot : Nat) (x8 : Int) (h1 : callInf cfg 40 [Value.int IntKind.i64 x0] (List.length H) H = some (Value.int IntKind.i64 x8, H)) (h2 : (x8 != 0) = true) : callInf cfg 31 [.int .i64 x0, .string x1] prot H = some (Value.int IntKind.i64 x8, H) :=
  fn_of a31 [.v (.int .i64 x8), .e, .b true] (fun e => (callInf cfg 40 [Value.int IntKind.i64 x0] (List.length H) H = some (Value.int IntKind.i64 x8, H)) ∧ ((x8 != 0) = true) ∧ e) (by kernel_rfl) ⟨h1, h2, rfl⟩ rfl
theorem f31_F_1 (x0 : Int) (x1 : ByteArray) (H : AHeap) (prot : Nat) (x8 : Int) (z4 : Value) (H1 : AHeap) (h1 : callInf cfg 40 [Value.int IntKind.i64 x0] (List.length H) H = some (Value.int IntKind.i64 x8, H)) (h2 : (x8 != 0) = false) (h3 : lpInf (lpOf cfg a31 0 prot H) ([Value.int IntKind.i64 x0, Value.string x1, Value.int IntKind.i64 0], H) = some (Ex.exit 0, [z4], H1)) : callInf cfg 31 [.int .i64 x0, .string x1] prot H = some (Value.int IntKind.i64 0, H) :=
  fn_of a31 [.v (.int .i64 x8), .e, .b false, .lo (.exit 0, [z4], H1)] (fun e => (callInf cfg 40 [Value.int IntKind.i64 x0] (List.length H) H = some (Value.int IntKind.i64 x8, H)) ∧ ((x8 != 0) = false) ∧ (lpInf (lpOf cfg a31 0 prot H) ([Value.int IntKind.i64 x0, Value.string x1, Value.int IntKind.i64 0], H) = some (Ex.exit 0, [z4], H1)) ∧ e) (by kernel_rfl) ⟨h1, h2, h3, rfl⟩ rfl
theorem f31_F_2 (x0 : Int) (x1 : ByteArray) (H : AHeap) (prot : Nat) (x8 : Int) (z4 : Int) (H1 : AHeap) (h1 : callInf cfg 40 [Value.int IntKind.i64 x0] (List.length H) H = some (Value.int IntKind.i64 x8, H)) (h2 : (x8 != 0) = false) (h3 : lpInf (lpOf cfg a31 0 prot H) ([Value.int IntKind.i64 x0, Value.string x1, Value.int IntKind.i64 0], H) = some (Ex.ret, [Value.int IntKind.i64 z4], H1)) : callInf cfg 31 [.int .i64 x0, .string x1] prot H = some (Value.int IntKind.i64 z4, H) :=
  fn_of a31 [.v (.int .i64 x8), .e, .b false, .lo (.ret, [.int .i64 z4], H1)] (fun e => (callInf cfg 40 [Value.int IntKind.i64 x0] (List.length H) H = some (Value.int IntKind.i64 x8, H)) ∧ ((x8 != 0) = false) ∧ (lpInf (lpOf cfg a31 0 prot H) ([Value.int IntKind.i64 x0, Value.string x1, Value.int IntKind.i64 0], H) = some (Ex.ret, [Value.int IntKind.i64 z4], H1)) ∧ e) (by kernel_rfl) ⟨h1, h2, h3, rfl⟩ rfl
theorem f31_L0_0 (x0 : Int) (x1 : ByteArray) (x6 : Int) (H0 : AHeap) (prot : Nat) (H : AHeap) (h1 : x6 < (↑x1.size : Int)) (h2 : 0 ≤ x6) (h3 : (↑(x1.get! x6.toNat).toNat : Int) < 97) : lpOf cfg a31 0 prot H0 ([.int .i64 x0, .string x1, .int .i64 x6], H) = some (Sum.inr (Ex.ret, [Value.int IntKind.i64 21], H)) :=
  lp_of [.e, .e, .b true, .e, .e, .b true, .b true, .b true, .b true, .b true, .b true, .b true, .b true, .b true] (fun e => (decide (x6 < (↑x1.size : Int)) = true) ∧ (0 ≤ x6) ∧ (x6 < (↑x1.size : Int)) ∧ (decide ((↑(x1.get! x6.toNat).toNat : Int) < 97) = true) ∧ (decide ((↑(x1.get! x6.toNat).toNat : Int) < 97) = true) ∧ (decide ((↑(x1.get! x6.toNat).toNat : Int) < 97) = true) ∧ (decide ((↑(x1.get! x6.toNat).toNat : Int) < 97) = true) ∧ (decide ((↑(x1.get! x6.toNat).toNat : Int) < 97) = true) ∧ (decide ((↑(x1.get! x6.toNat).toNat : Int) < 97) = true) ∧ (decide ((↑(x1.get! x6.toNat).toNat : Int) < 97) = true) ∧ (decide ((↑(x1.get! x6.toNat).toNat : Int) < 97) = true) ∧ (true = true) ∧ e) (by kernel_rfl) ⟨decide_eq_true h1, h2, h1, decide_eq_true h3, decide_eq_true h3, decide_eq_true h3, decide_eq_true h3, decide_eq_true h3, decide_eq_true h3, decide_eq_true h3, decide_eq_true h3, rfl, rfl⟩
theorem f31_L0_1 (x0 : Int) (x1 : ByteArray) (x6 : Int) (H0 : AHeap) (prot : Nat) (H : AHeap) (h1 : x6 < (↑x1.size : Int)) (h2 : 0 ≤ x6) (h3 : ¬((↑(x1.get! x6.toNat).toNat : Int) < 97)) (h4 : Fit IntKind.i64 (IntKind.u8.wrap ((↑(x1.get! x6.toNat).toNat : Int) - 97))) (h5 : IntKind.u8.wrap ((↑(x1.get! x6.toNat).toNat : Int) - 97) ≥ x0) : lpOf cfg a31 0 prot H0 ([.int .i64 x0, .string x1, .int .i64 x6], H) = some (Sum.inr (Ex.ret, [Value.int IntKind.i64 21], H)) :=
  lp_of [.e, .e, .b true, .e, .e, .b false, .b false, .b false, .e, .b false, .e, .b false, .e, .b false, .b false, .e, .b false, .b true] (fun e => (decide (x6 < (↑x1.size : Int)) = true) ∧ (0 ≤ x6) ∧ (x6 < (↑x1.size : Int)) ∧ (decide ((↑(x1.get! x6.toNat).toNat : Int) < 97) = false) ∧ (decide ((↑(x1.get! x6.toNat).toNat : Int) < 97) = false) ∧ (decide ((↑(x1.get! x6.toNat).toNat : Int) < 97) = false) ∧ (0 ≤ x6) ∧ (x6 < (↑x1.size : Int)) ∧ (decide ((↑(x1.get! x6.toNat).toNat : Int) < 97) = false) ∧ (decide ((↑(x1.get! x6.toNat).toNat : Int) < 97) = false) ∧ (Fit IntKind.i64 (IntKind.u8.wrap ((↑(x1.get! x6.toNat).toNat : Int) - 97))) ∧ (decide ((↑(x1.get! x6.toNat).toNat : Int) < 97) = false) ∧ (decide ((↑(x1.get! x6.toNat).toNat : Int) < 97) = false) ∧ (decide ((↑(x1.get! x6.toNat).toNat : Int) < 97) = false) ∧ (decide (IntKind.u8.wrap ((↑(x1.get! x6.toNat).toNat : Int) - 97) ≥ x0) = true) ∧ e) (by kernel_rfl) ⟨decide_eq_true h1, h2, h1, decide_eq_false h3, decide_eq_false h3, decide_eq_false h3, h2, h1, decide_eq_false h3, decide_eq_false h3, h4, decide_eq_false h3, decide_eq_false h3, decide_eq_false h3, decide_eq_true h5, rfl⟩
theorem f31_L0_2 (x0 : Int) (x1 : ByteArray) (x6 : Int) (H0 : AHeap) (prot : Nat) (H : AHeap) (h1 : x6 < (↑x1.size : Int)) (h2 : 0 ≤ x6) (h3 : ¬((↑(x1.get! x6.toNat).toNat : Int) < 97)) (h4 : Fit IntKind.i64 (IntKind.u8.wrap ((↑(x1.get! x6.toNat).toNat : Int) - 97))) (h5 : ¬(IntKind.u8.wrap ((↑(x1.get! x6.toNat).toNat : Int) - 97) ≥ x0)) (h6 : Fit IntKind.i64 (x6 + 1)) : lpOf cfg a31 0 prot H0 ([.int .i64 x0, .string x1, .int .i64 x6], H) = some (Sum.inl ([Value.int IntKind.i64 x0, Value.string x1, Value.int IntKind.i64 (x6 + 1)], H)) :=
  lp_of [.e, .e, .b true, .e, .e, .b false, .b false, .b false, .e, .b false, .e, .b false, .e, .b false, .b false, .e, .b false, .b false, .e] (fun e => (decide (x6 < (↑x1.size : Int)) = true) ∧ (0 ≤ x6) ∧ (x6 < (↑x1.size : Int)) ∧ (decide ((↑(x1.get! x6.toNat).toNat : Int) < 97) = false) ∧ (decide ((↑(x1.get! x6.toNat).toNat : Int) < 97) = false) ∧ (decide ((↑(x1.get! x6.toNat).toNat : Int) < 97) = false) ∧ (0 ≤ x6) ∧ (x6 < (↑x1.size : Int)) ∧ (decide ((↑(x1.get! x6.toNat).toNat : Int) < 97) = false) ∧ (decide ((↑(x1.get! x6.toNat).toNat : Int) < 97) = false) ∧ (Fit IntKind.i64 (IntKind.u8.wrap ((↑(x1.get! x6.toNat).toNat : Int) - 97))) ∧ (decide ((↑(x1.get! x6.toNat).toNat : Int) < 97) = false) ∧ (decide ((↑(x1.get! x6.toNat).toNat : Int) < 97) = false) ∧ (decide ((↑(x1.get! x6.toNat).toNat : Int) < 97) = false) ∧ (decide (IntKind.u8.wrap ((↑(x1.get! x6.toNat).toNat : Int) - 97) ≥ x0) = false) ∧ (Fit IntKind.i64 (x6 + 1)) ∧ e) (by kernel_rfl) ⟨decide_eq_true h1, h2, h1, decide_eq_false h3, decide_eq_false h3, decide_eq_false h3, h2, h1, decide_eq_false h3, decide_eq_false h3, h4, decide_eq_false h3, decide_eq_false h3, decide_eq_false h3, decide_eq_false h5, h6, rfl⟩
theorem f31_L0_3 (x0 : Int) (x1 : ByteArray) (x6 : Int) (H0 : AHeap) (prot : Nat) (H : AHeap) (h1 : ¬(x6 < (↑x1.size : Int))) : lpOf cfg a31 0 prot H0 ([.int .i64 x0, .string x1, .int .i64 x6], H) = some (Sum.inr (Ex.exit 0, [Value.tuple { toList := [] }], H)) :=
  lp_of [.e, .e, .b false] (fun e => (decide (x6 < (↑x1.size : Int)) = false) ∧ e) (by kernel_rfl) ⟨decide_eq_false h1, rfl⟩
end Go.Proofs.Ytedfombojnfbiaa.Am24
set_option linter.unusedVariables false
open Go Go.Proofs.Ytedfombojnfbiaa.Am
namespace Go.Proofs.Ytedfombojnfbiaa.Am24
theorem f40_F_0 (x0 : Int) (H : AHeap) (prot : Nat) (h1 : x0 < 1) : callInf cfg 40 [.int .i64 x0] prot H = some (Value.int IntKind.i64 20, H) :=
  fn_of a40 [.e, .b true, .b true, .b true, .b true] (fun e => (decide (x0 < 1) = true) ∧ (decide (x0 < 1) = true) ∧ (decide (x0 < 1) = true) ∧ (true = true) ∧ e) (by kernel_rfl) ⟨decide_eq_true h1, decide_eq_true h1, decide_eq_true h1, rfl, rfl⟩ rfl
theorem f40_F_1 (x0 : Int) (H : AHeap) (prot : Nat) (h1 : ¬(x0 < 1)) (h2 : x0 > 8) : callInf cfg 40 [.int .i64 x0] prot H = some (Value.int IntKind.i64 20, H) :=
  fn_of a40 [.e, .b false, .b false, .e, .b false, .b true] (fun e => (decide (x0 < 1) = false) ∧ (decide (x0 < 1) = false) ∧ (decide (x0 < 1) = false) ∧ (decide (x0 > 8) = true) ∧ e) (by kernel_rfl) ⟨decide_eq_false h1, decide_eq_false h1, decide_eq_false h1, decide_eq_true h2, rfl⟩ rfl
theorem f40_F_2 (x0 : Int) (H : AHeap) (prot : Nat) (h1 : ¬(x0 < 1)) (h2 : ¬(x0 > 8)) : callInf cfg 40 [.int .i64 x0] prot H = some (Value.int IntKind.i64 0, H) :=
  fn_of a40 [.e, .b false, .b false, .e, .b false, .b false] (fun e => (decide (x0 < 1) = false) ∧ (decide (x0 < 1) = false) ∧ (decide (x0 < 1) = false) ∧ (decide (x0 > 8) = false) ∧ e) (by kernel_rfl) ⟨decide_eq_false h1, decide_eq_false h1, decide_eq_false h1, decide_eq_false h2, rfl⟩ rfl
end Go.Proofs.Ytedfombojnfbiaa.Am24
namespace Go.Proofs.Ytedfombojnfbiaa.Am24
open Go Go.Proofs.Ytedfombojnfbiaa.Am

theorem dec_low (s : ByteArray) (i : Nat) (h : (s.get! i).toNat < 128) : Utf8.decode s i = ((s.get! i).toNat, 1) := by
  simp only [Utf8.decode, Nat.add_zero]
  rw [if_pos h]
theorem dec_high (s : ByteArray) (i : Nat) (h : ¬ (s.get! i).toNat < 128) : 128 ≤ (Utf8.decode s i).1 ∧ (Utf8.decode s i).1 ≤ 1114111 ∧ 1 ≤ (Utf8.decode s i).2 := by
  have hb : ∀ k, (s.get! (i + k)).toNat < 256 := fun k => (s.get! (i + k)).toNat_lt
  have h0 := hb 0; have h1 := hb 1; have h2 := hb 2; have h3 := hb 3
  simp only [Utf8.decode, Nat.add_zero, if_neg h]
  repeat' split
  all_goals simp_all [Utf8.runeError, Utf8.valid]
  all_goals omega

/-- Are all letters from i on (d of them) among the first k? -/
def okFrom (k : Nat) (w : ByteArray) : Nat → Nat → Bool
  | 0, _ => true
  | d + 1, i => decide (97 ≤ (w.get! i).toNat ∧ (w.get! i).toNat < 97 + k) && okFrom k w d (i + 1)
def okW (k : Nat) (w : ByteArray) : Bool := okFrom k w w.size 0

theorem okFrom_iff (k : Nat) (w : ByteArray) : ∀ d i, okFrom k w d i = true ↔ ∀ j, i ≤ j → j < i + d → 97 ≤ (w.get! j).toNat ∧ (w.get! j).toNat < 97 + k
  | 0, i => by simp [okFrom]; intro j h1 h2; omega
  | d + 1, i => by
    simp only [okFrom, Bool.and_eq_true, decide_eq_true_eq, okFrom_iff k w d (i + 1)]
    constructor
    · rintro ⟨h1, h2⟩ j hj1 hj2
      by_cases e : j = i
      · subst e; exact h1
      · exact h2 j (by omega) (by omega)
    · intro h
      exact ⟨h i (by omega) (by omega), fun j h1 h2 => h j (by omega) (by omega)⟩
theorem okW_iff (k : Nat) (w : ByteArray) : okW k w = true ↔ Wd k w := by
  unfold okW Wd
  rw [okFrom_iff]
  exact ⟨fun h i hi => h i (by omega) (by omega), fun h j _ h2 => h j (by omega)⟩

theorem loop37 {k : Nat} (hk1 : 1 ≤ k) (hk : k ≤ 8) (w : ByteArray) (H0 : AHeap) (prot : Nat) (p : Nat) (hp : H0.length ≤ p) : ∀ (d i : Nat) (H : AHeap), i + d = w.size → H[p]? = some (.iter w i) →
    ∃ H' v, lpInf (lpOf cfg a37 0 prot H0) ([.int .i64 k, .pointer (some ⟨p, 0, some 0⟩)], H) = some (if okFrom k w d i then (.exit 0, [v], H') else (.ret, [.int .i64 21], H'))
  | 0, i, H, hi, hH => by
    refine ⟨H, .tuple #[], lp_last (f37_L0_3 k p H0 prot H H ?_)⟩
    unfold anext
    simp only
    rw [hH]
    simp only
    rw [if_pos hp, if_neg (by omega)]
  | d + 1, i, H, hi, hH => by
    have hn : anext H0.length (.pointer (some ⟨p, 0, some 0⟩)) H = some (.tuple #[.bool true, .int .i64 i, .int .i32 (Utf8.decode w i).1], H.set p (.iter w (i + (Utf8.decode w i).2))) := by
      unfold anext
      simp only
      rw [hH]
      simp only
      rw [if_pos hp, if_pos (by omega)]
    have f1 : Fit .i32 (k : Int) := fit32 (by omega) (by omega)
    have f2 : Fit .i32 (97 + (k : Int)) := fit32 (by omega) (by omega)
    by_cases h1 : (w.get! i).toNat < 97
    · refine ⟨H.set p (.iter w (i + (Utf8.decode w i).2)), .tuple #[], ?_⟩
      have hf : okFrom k w (d + 1) i = false := by simp [okFrom]; omega
      rw [hf, if_neg (by simp)]
      refine lp_last (f37_L0_0 k p H0 prot H i _ _ hn ?_)
      rw [dec_low w i (by omega)]
      show ((w.get! i).toNat : Int) < 97
      omega
    · by_cases h2 : (w.get! i).toNat < 97 + k
      · have hd := dec_low w i (by omega)
        rw [hd] at hn
        have step := f37_L0_2 k p H0 prot H i _ _ hn (by omega) f1 f2 (by omega)
        obtain ⟨H', v, ih⟩ := loop37 hk1 hk w H0 prot p hp d (i + 1) _ (by omega) (get_set_self hH)
        refine ⟨H', v, lp_next step ?_⟩
        have hf : okFrom k w (d + 1) i = okFrom k w d (i + 1) := by
          have : decide (97 ≤ (w.get! i).toNat ∧ (w.get! i).toNat < 97 + k) = true := by simp; omega
          simp only [okFrom, this, Bool.true_and]
        rw [hf]
        exact ih
      · have hbig : (Utf8.decode w i).1 ≥ 97 + k := by
          by_cases h3 : (w.get! i).toNat < 128
          · rw [dec_low w i h3]; show (w.get! i).toNat ≥ 97 + k; omega
          · have := dec_high w i h3; omega
        refine ⟨H.set p (.iter w (i + (Utf8.decode w i).2)), .tuple #[], ?_⟩
        have hf : okFrom k w (d + 1) i = false := by simp [okFrom]; omega
        rw [hf, if_neg (by simp)]
        exact lp_last (f37_L0_1 k p H0 prot H i _ _ hn (by omega) f1 f2 (by omega))

/-- What Check answers. -/
def chk (k : Int) (w : ByteArray) : Int := if k < 1 ∨ k > 8 then 20 else if okW k.toNat w then 0 else 21

theorem c37 (k : Int) (w : ByteArray) (prot : Nat) (H : AHeap) : callInf cfg 37 [.int .i64 k, .string w] prot H = some (.int .i64 (chk k w), H) := by
  unfold chk
  by_cases h1 : k < 1
  · rw [if_pos (.inl h1)]; exact f37_F_0 k w H prot h1
  · by_cases h2 : k > 8
    · rw [if_pos (.inr h2)]; exact f37_F_1 k w H prot h1 h2
    · rw [if_neg (by omega)]
      obtain ⟨n, rfl⟩ : ∃ n : Nat, k = n := ⟨k.toNat, by omega⟩
      obtain ⟨H', v, h⟩ := loop37 (k := n) (by omega) (by omega) w H prot H.length (Nat.le_refl _) w.size 0 (H ++ [.iter w 0]) (by omega) append_get.1
      rw [Int.toNat_natCast]
      unfold okW
      cases hok : okFrom n w w.size 0 with
      | true =>
        rw [hok] at h
        exact f37_F_2 n w H prot v H' h1 h2 h
      | false =>
        rw [hok] at h
        exact f37_F_3 n w H prot 21 H' h1 h2 h

def lets (k : Int) : Int := if k < 1 ∨ k > 8 then 20 else 0
theorem c40 (k : Int) (prot : Nat) (H : AHeap) : callInf cfg 40 [.int .i64 k] prot H = some (.int .i64 (lets k), H) := by
  unfold lets
  by_cases h1 : k < 1
  · rw [if_pos (.inl h1)]; exact f40_F_0 k H prot h1
  · by_cases h2 : k > 8
    · rw [if_pos (.inr h2)]; exact f40_F_1 k H prot h1 h2
    · rw [if_neg (by omega)]; exact f40_F_2 k H prot h1 h2

theorem loop31 {k : Nat} (hk1 : 1 ≤ k) (hk : k ≤ 8) (w : ByteArray) (hs : w.size < 9223372036854775807) (H0 H : AHeap) (prot : Nat) : ∀ (d i : Nat), i + d = w.size →
    lpInf (lpOf cfg a31 0 prot H0) ([.int .i64 k, .string w, .int .i64 i], H) = some (if okFrom k w d i then (.exit 0, [.tuple #[]], H) else (.ret, [.int .i64 21], H))
  | 0, i, hi => lp_last (f31_L0_3 k w i H0 prot H (by omega))
  | d + 1, i, hi => by
    have hlt : (w.get! i).toNat < 256 := (w.get! i).toNat_lt
    by_cases h1 : (w.get! i).toNat < 97
    · have hf : okFrom k w (d + 1) i = false := by simp [okFrom]; omega
      rw [hf, if_neg (by simp)]
      exact lp_last (f31_L0_0 k w i H0 prot H (by omega) (by omega) (by rw [Int.toNat_natCast]; omega))
    · have e : IntKind.u8.wrap (((w.get! ((i : Int).toNat)).toNat : Int) - 97) = (((w.get! i).toNat - 97 : Nat) : Int) := by
        rw [Int.toNat_natCast, u8_sub (by omega) hlt]
      by_cases h2 : (w.get! i).toNat < 97 + k
      · have step := f31_L0_2 k w i H0 prot H (by omega) (by omega) (by rw [Int.toNat_natCast]; omega) (by rw [e]; exact fit64 (by omega) (by omega)) (by rw [e]; omega) (fit64 (by omega) (by omega))
        have hf : okFrom k w (d + 1) i = okFrom k w d (i + 1) := by
          have : decide (97 ≤ (w.get! i).toNat ∧ (w.get! i).toNat < 97 + k) = true := by simp; omega
          simp only [okFrom, this, Bool.true_and]
        rw [hf]
        exact lp_next step (loop31 hk1 hk w hs H0 H prot d (i + 1) (by omega))
      · have hf : okFrom k w (d + 1) i = false := by simp [okFrom]; omega
        rw [hf, if_neg (by simp)]
        exact lp_last (f31_L0_1 k w i H0 prot H (by omega) (by omega) (by rw [Int.toNat_natCast]; omega) (by rw [e]; exact fit64 (by omega) (by omega)) (by rw [e]; omega))

theorem c31 (k : Int) (w : ByteArray) (hs : w.size < 9223372036854775807) (prot : Nat) (H : AHeap) : callInf cfg 31 [.int .i64 k, .string w] prot H = some (.int .i64 (chk k w), H) := by
  have hl := c40 k H.length H
  unfold chk
  by_cases h1 : k < 1 ∨ k > 8
  · rw [if_pos h1]
    have : lets k = 20 := by unfold lets; rw [if_pos h1]
    rw [this] at hl
    exact f31_F_0 k w H prot 20 hl rfl
  · rw [if_neg h1]
    have : lets k = 0 := by unfold lets; rw [if_neg h1]
    rw [this] at hl
    obtain ⟨n, rfl⟩ : ∃ n : Nat, k = n := ⟨k.toNat, by omega⟩
    have h := loop31 (k := n) (by omega) (by omega) w hs H H prot w.size 0 (by omega)
    rw [Int.toNat_natCast]
    unfold okW
    cases hok : okFrom n w w.size 0 with
    | true =>
      rw [hok] at h
      exact f31_F_1 n w H prot 0 _ H hl rfl h
    | false =>
      rw [hok] at h
      exact f31_F_2 n w H prot 0 21 H hl rfl h
end Go.Proofs.Ytedfombojnfbiaa.Am24
set_option linter.unusedVariables false
open Go Go.Proofs.Ytedfombojnfbiaa.Am
namespace Go.Proofs.Ytedfombojnfbiaa.Am24
theorem f26_F_0 (x0 : Int) (x1 : Int) (x2a : Option Addr) (x2n : Nat) (x2c : Nat) (H : AHeap) (prot : Nat) (h1 : x0 < 1) : callInf cfg 26 [.int .i64 x0, .int .i64 x1, .slice x2a x2n x2c] prot H = some (Value.int IntKind.i64 20, H) :=
  fn_of a26 [.e, .b true, .b true, .b true, .b true] (fun e => (decide (x0 < 1) = true) ∧ (decide (x0 < 1) = true) ∧ (decide (x0 < 1) = true) ∧ (true = true) ∧ e) (by kernel_rfl) ⟨decide_eq_true h1, decide_eq_true h1, decide_eq_true h1, rfl, rfl⟩ rfl
theorem f26_F_1 (x0 : Int) (x1 : Int) (x2a : Option Addr) (x2n : Nat) (x2c : Nat) (H : AHeap) (prot : Nat) (h1 : ¬(x0 < 1)) (h2 : x0 > 8) : callInf cfg 26 [.int .i64 x0, .int .i64 x1, .slice x2a x2n x2c] prot H = some (Value.int IntKind.i64 20, H) :=
  fn_of a26 [.e, .b false, .b false, .e, .b false, .b true] (fun e => (decide (x0 < 1) = false) ∧ (decide (x0 < 1) = false) ∧ (decide (x0 < 1) = false) ∧ (decide (x0 > 8) = true) ∧ e) (by kernel_rfl) ⟨decide_eq_false h1, decide_eq_false h1, decide_eq_false h1, decide_eq_true h2, rfl⟩ rfl
theorem f26_F_2 (x0 : Int) (x1 : Int) (x2a : Option Addr) (x2n : Nat) (x2c : Nat) (H : AHeap) (prot : Nat) (h1 : ¬(x0 < 1)) (h2 : ¬(x0 > 8)) (h3 : x1 < 0) : callInf cfg 26 [.int .i64 x0, .int .i64 x1, .slice x2a x2n x2c] prot H = some (Value.int IntKind.i64 11, H) :=
  fn_of a26 [.e, .b false, .b false, .e, .b false, .b false, .e, .b true, .b true, .b true, .b true] (fun e => (decide (x0 < 1) = false) ∧ (decide (x0 < 1) = false) ∧ (decide (x0 < 1) = false) ∧ (decide (x0 > 8) = false) ∧ (decide (x1 < 0) = true) ∧ (decide (x1 < 0) = true) ∧ (decide (x1 < 0) = true) ∧ (true = true) ∧ e) (by kernel_rfl) ⟨decide_eq_false h1, decide_eq_false h1, decide_eq_false h1, decide_eq_false h2, decide_eq_true h3, decide_eq_true h3, decide_eq_true h3, rfl, rfl⟩ rfl
theorem f26_F_3 (x0 : Int) (x1 : Int) (x2a : Option Addr) (x2n : Nat) (x2c : Nat) (H : AHeap) (prot : Nat) (h1 : ¬(x0 < 1)) (h2 : ¬(x0 > 8)) (h3 : ¬(x1 < 0)) (h4 : x1 > 4) : callInf cfg 26 [.int .i64 x0, .int .i64 x1, .slice x2a x2n x2c] prot H = some (Value.int IntKind.i64 11, H) :=
  fn_of a26 [.e, .b false, .b false, .e, .b false, .b false, .e, .b false, .b false, .e, .b false, .b true] (fun e => (decide (x0 < 1) = false) ∧ (decide (x0 < 1) = false) ∧ (decide (x0 < 1) = false) ∧ (decide (x0 > 8) = false) ∧ (decide (x1 < 0) = false) ∧ (decide (x1 < 0) = false) ∧ (decide (x1 < 0) = false) ∧ (decide (x1 > 4) = true) ∧ e) (by kernel_rfl) ⟨decide_eq_false h1, decide_eq_false h1, decide_eq_false h1, decide_eq_false h2, decide_eq_false h3, decide_eq_false h3, decide_eq_false h3, decide_eq_true h4, rfl⟩ rfl
theorem f26_F_4 (x0 : Int) (x1 : Int) (x2a : Option Addr) (x2n : Nat) (x2c : Nat) (H : AHeap) (prot : Nat) (z6 : Value) (H1 : AHeap) (h1 : ¬(x0 < 1)) (h2 : ¬(x0 > 8)) (h3 : ¬(x1 < 0)) (h4 : ¬(x1 > 4)) (h5 : lpInf (lpOf cfg a26 0 prot H) ([Value.int IntKind.i64 x0, Value.slice x2a x2n x2c, Value.int IntKind.i64 (↑x2n : Int), Value.int IntKind.i64 0], H) = some (Ex.exit 0, [z6], H1)) : callInf cfg 26 [.int .i64 x0, .int .i64 x1, .slice x2a x2n x2c] prot H = some (Value.int IntKind.i64 0, H) :=
  fn_of a26 [.e, .b false, .b false, .e, .b false, .b false, .e, .b false, .b false, .e, .b false, .b false, .e, .lo (.exit 0, [z6], H1)] (fun e => (decide (x0 < 1) = false) ∧ (decide (x0 < 1) = false) ∧ (decide (x0 < 1) = false) ∧ (decide (x0 > 8) = false) ∧ (decide (x1 < 0) = false) ∧ (decide (x1 < 0) = false) ∧ (decide (x1 < 0) = false) ∧ (decide (x1 > 4) = false) ∧ (lpInf (lpOf cfg a26 0 prot H) ([Value.int IntKind.i64 x0, Value.slice x2a x2n x2c, Value.int IntKind.i64 (↑x2n : Int), Value.int IntKind.i64 0], H) = some (Ex.exit 0, [z6], H1)) ∧ e) (by kernel_rfl) ⟨decide_eq_false h1, decide_eq_false h1, decide_eq_false h1, decide_eq_false h2, decide_eq_false h3, decide_eq_false h3, decide_eq_false h3, decide_eq_false h4, h5, rfl⟩ rfl
theorem f26_F_5 (x0 : Int) (x1 : Int) (x2a : Option Addr) (x2n : Nat) (x2c : Nat) (H : AHeap) (prot : Nat) (z6 : Int) (H1 : AHeap) (h1 : ¬(x0 < 1)) (h2 : ¬(x0 > 8)) (h3 : ¬(x1 < 0)) (h4 : ¬(x1 > 4)) (h5 : lpInf (lpOf cfg a26 0 prot H) ([Value.int IntKind.i64 x0, Value.slice x2a x2n x2c, Value.int IntKind.i64 (↑x2n : Int), Value.int IntKind.i64 0], H) = some (Ex.ret, [Value.int IntKind.i64 z6], H1)) : callInf cfg 26 [.int .i64 x0, .int .i64 x1, .slice x2a x2n x2c] prot H = some (Value.int IntKind.i64 z6, H) :=
  fn_of a26 [.e, .b false, .b false, .e, .b false, .b false, .e, .b false, .b false, .e, .b false, .b false, .e, .lo (.ret, [.int .i64 z6], H1)] (fun e => (decide (x0 < 1) = false) ∧ (decide (x0 < 1) = false) ∧ (decide (x0 < 1) = false) ∧ (decide (x0 > 8) = false) ∧ (decide (x1 < 0) = false) ∧ (decide (x1 < 0) = false) ∧ (decide (x1 < 0) = false) ∧ (decide (x1 > 4) = false) ∧ (lpInf (lpOf cfg a26 0 prot H) ([Value.int IntKind.i64 x0, Value.slice x2a x2n x2c, Value.int IntKind.i64 (↑x2n : Int), Value.int IntKind.i64 0], H) = some (Ex.ret, [Value.int IntKind.i64 z6], H1)) ∧ e) (by kernel_rfl) ⟨decide_eq_false h1, decide_eq_false h1, decide_eq_false h1, decide_eq_false h2, decide_eq_false h3, decide_eq_false h3, decide_eq_false h3, decide_eq_false h4, h5, rfl⟩ rfl
theorem f26_L0_0 (x0 : Int) (x22a : Option Addr) (x22n : Nat) (x22c : Nat) (x23 : Int) (x24 : Int) (H0 : AHeap) (prot : Nat) (H : AHeap) (x26p : Nat) (x26o : Nat) (x26l : Nat) (x27 : ByteArray) (x30 : Int) (h1 : x24 < x23) (h2 : aindexAddr cfg.P 22 (Value.slice x22a x22n x22c) (Value.int IntKind.i64 x24) = some (Value.pointer (some { block := x26p, off := x26o, spot := some x26l }))) (h3 : getCells H x26p x26l x26o 1 = some [Value.string x27]) (h4 : callInf cfg 37 [Value.int IntKind.i64 x0, Value.string x27] (List.length H0) H = some (Value.int IntKind.i64 x30, H)) (h5 : (x30 != 0) = true) : lpOf cfg a26 0 prot H0 ([.int .i64 x0, .slice x22a x22n x22c, .int .i64 x23, .int .i64 x24], H) = some (Sum.inr (Ex.ret, [Value.int IntKind.i64 x30], H)) :=
  lp_of [.e, .b true, .v (.pointer (some ⟨x26p, x26o, some x26l⟩)), .v (.string x27), .v (.int .i64 x30), .e, .b true] (fun e => (decide (x24 < x23) = true) ∧ (aindexAddr cfg.P 22 (Value.slice x22a x22n x22c) (Value.int IntKind.i64 x24) = some (Value.pointer (some { block := x26p, off := x26o, spot := some x26l }))) ∧ (getCells H x26p x26l x26o 1 = some [Value.string x27]) ∧ (callInf cfg 37 [Value.int IntKind.i64 x0, Value.string x27] (List.length H0) H = some (Value.int IntKind.i64 x30, H)) ∧ ((x30 != 0) = true) ∧ e) (by kernel_rfl) ⟨decide_eq_true h1, h2, h3, h4, h5, rfl⟩
theorem f26_L0_1 (x0 : Int) (x22a : Option Addr) (x22n : Nat) (x22c : Nat) (x23 : Int) (x24 : Int) (H0 : AHeap) (prot : Nat) (H : AHeap) (x26p : Nat) (x26o : Nat) (x26l : Nat) (x27 : ByteArray) (x30 : Int) (h1 : x24 < x23) (h2 : aindexAddr cfg.P 22 (Value.slice x22a x22n x22c) (Value.int IntKind.i64 x24) = some (Value.pointer (some { block := x26p, off := x26o, spot := some x26l }))) (h3 : getCells H x26p x26l x26o 1 = some [Value.string x27]) (h4 : callInf cfg 37 [Value.int IntKind.i64 x0, Value.string x27] (List.length H0) H = some (Value.int IntKind.i64 x30, H)) (h5 : (x30 != 0) = false) (h6 : Fit IntKind.i64 (x24 + 1)) : lpOf cfg a26 0 prot H0 ([.int .i64 x0, .slice x22a x22n x22c, .int .i64 x23, .int .i64 x24], H) = some (Sum.inl ([Value.int IntKind.i64 x0, Value.slice x22a x22n x22c, Value.int IntKind.i64 x23, Value.int IntKind.i64 (x24 + 1)], H)) :=
  lp_of [.e, .b true, .v (.pointer (some ⟨x26p, x26o, some x26l⟩)), .v (.string x27), .v (.int .i64 x30), .e, .b false, .e] (fun e => (decide (x24 < x23) = true) ∧ (aindexAddr cfg.P 22 (Value.slice x22a x22n x22c) (Value.int IntKind.i64 x24) = some (Value.pointer (some { block := x26p, off := x26o, spot := some x26l }))) ∧ (getCells H x26p x26l x26o 1 = some [Value.string x27]) ∧ (callInf cfg 37 [Value.int IntKind.i64 x0, Value.string x27] (List.length H0) H = some (Value.int IntKind.i64 x30, H)) ∧ ((x30 != 0) = false) ∧ (Fit IntKind.i64 (x24 + 1)) ∧ e) (by kernel_rfl) ⟨decide_eq_true h1, h2, h3, h4, h5, h6, rfl⟩
theorem f26_L0_2 (x0 : Int) (x22a : Option Addr) (x22n : Nat) (x22c : Nat) (x23 : Int) (x24 : Int) (H0 : AHeap) (prot : Nat) (H : AHeap) (h1 : ¬(x24 < x23)) : lpOf cfg a26 0 prot H0 ([.int .i64 x0, .slice x22a x22n x22c, .int .i64 x23, .int .i64 x24], H) = some (Sum.inr (Ex.exit 0, [Value.tuple { toList := [] }], H)) :=
  lp_of [.e, .b false] (fun e => (decide (x24 < x23) = false) ∧ e) (by kernel_rfl) ⟨decide_eq_false h1, rfl⟩
end Go.Proofs.Ytedfombojnfbiaa.Am24
set_option linter.unusedVariables false
open Go Go.Proofs.Ytedfombojnfbiaa.Am
namespace Go.Proofs.Ytedfombojnfbiaa.Am24
theorem f28_F_0 (x0 : Int) (x1 : Int) (x2 : ByteArray) (x3 : ByteArray) (H : AHeap) (prot : Nat) (x11 : Int) (x26 : Int) (x31 : Int) (h1 : callInf cfg 40 [Value.int IntKind.i64 x0] (List.length H) H = some (Value.int IntKind.i64 x11, H)) (h2 : (x11 == 0) = true) (h3 : x1 < 0) (h4 : (11 == 0) = true) (h5 : callInf cfg 31 [Value.int IntKind.i64 x0, Value.string x2] (List.length H) H = some (Value.int IntKind.i64 x26, H)) (h6 : (x26 == 0) = true) (h7 : callInf cfg 31 [Value.int IntKind.i64 x0, Value.string x3] (List.length H) H = some (Value.int IntKind.i64 x31, H)) : callInf cfg 28 [.int .i64 x0, .int .i64 x1, .string x2, .string x3] prot H = some (Value.int IntKind.i64 x31, H) :=
  fn_of a28 [.v (.int .i64 x11), .e, .b true, .b true, .e, .b true, .b true, .b true, .b true, .b true, .b true, .b true, .e, .b true, .v (.int .i64 x26), .e, .b true, .v (.int .i64 x31)] (fun e => (callInf cfg 40 [Value.int IntKind.i64 x0] (List.length H) H = some (Value.int IntKind.i64 x11, H)) ∧ ((x11 == 0) = true) ∧ ((x11 == 0) = true) ∧ ((x11 == 0) = true) ∧ (decide (x1 < 0) = true) ∧ (decide (x1 < 0) = true) ∧ ((x11 == 0) = true) ∧ (decide (x1 < 0) = true) ∧ ((x11 == 0) = true) ∧ (true = true) ∧ ((11 == 0) = true) ∧ (callInf cfg 31 [Value.int IntKind.i64 x0, Value.string x2] (List.length H) H = some (Value.int IntKind.i64 x26, H)) ∧ ((x26 == 0) = true) ∧ (callInf cfg 31 [Value.int IntKind.i64 x0, Value.string x3] (List.length H) H = some (Value.int IntKind.i64 x31, H)) ∧ e) (by kernel_rfl) ⟨h1, h2, h2, h2, decide_eq_true h3, decide_eq_true h3, h2, decide_eq_true h3, h2, rfl, h4, h5, h6, h7, rfl⟩ rfl
theorem f28_F_1 (x0 : Int) (x1 : Int) (x2 : ByteArray) (x3 : ByteArray) (H : AHeap) (prot : Nat) (x11 : Int) (x26 : Int) (h1 : callInf cfg 40 [Value.int IntKind.i64 x0] (List.length H) H = some (Value.int IntKind.i64 x11, H)) (h2 : (x11 == 0) = true) (h3 : x1 < 0) (h4 : (11 == 0) = true) (h5 : callInf cfg 31 [Value.int IntKind.i64 x0, Value.string x2] (List.length H) H = some (Value.int IntKind.i64 x26, H)) (h6 : (x26 == 0) = false) : callInf cfg 28 [.int .i64 x0, .int .i64 x1, .string x2, .string x3] prot H = some (Value.int IntKind.i64 x26, H) :=
  fn_of a28 [.v (.int .i64 x11), .e, .b true, .b true, .e, .b true, .b true, .b true, .b true, .b true, .b true, .b true, .e, .b true, .v (.int .i64 x26), .e, .b false] (fun e => (callInf cfg 40 [Value.int IntKind.i64 x0] (List.length H) H = some (Value.int IntKind.i64 x11, H)) ∧ ((x11 == 0) = true) ∧ ((x11 == 0) = true) ∧ ((x11 == 0) = true) ∧ (decide (x1 < 0) = true) ∧ (decide (x1 < 0) = true) ∧ ((x11 == 0) = true) ∧ (decide (x1 < 0) = true) ∧ ((x11 == 0) = true) ∧ (true = true) ∧ ((11 == 0) = true) ∧ (callInf cfg 31 [Value.int IntKind.i64 x0, Value.string x2] (List.length H) H = some (Value.int IntKind.i64 x26, H)) ∧ ((x26 == 0) = false) ∧ e) (by kernel_rfl) ⟨h1, h2, h2, h2, decide_eq_true h3, decide_eq_true h3, h2, decide_eq_true h3, h2, rfl, h4, h5, h6, rfl⟩ rfl
theorem f28_F_3 (x0 : Int) (x1 : Int) (x2 : ByteArray) (x3 : ByteArray) (H : AHeap) (prot : Nat) (x11 : Int) (h1 : callInf cfg 40 [Value.int IntKind.i64 x0] (List.length H) H = some (Value.int IntKind.i64 x11, H)) (h2 : (x11 == 0) = true) (h3 : x1 < 0) (h4 : (11 == 0) = false) : callInf cfg 28 [.int .i64 x0, .int .i64 x1, .string x2, .string x3] prot H = some (Value.int IntKind.i64 11, H) :=
  fn_of a28 [.v (.int .i64 x11), .e, .b true, .b true, .e, .b true, .b true, .b true, .b true, .b true, .b true, .b true, .e, .b false, .e, .b false] (fun e => (callInf cfg 40 [Value.int IntKind.i64 x0] (List.length H) H = some (Value.int IntKind.i64 x11, H)) ∧ ((x11 == 0) = true) ∧ ((x11 == 0) = true) ∧ ((x11 == 0) = true) ∧ (decide (x1 < 0) = true) ∧ (decide (x1 < 0) = true) ∧ ((x11 == 0) = true) ∧ (decide (x1 < 0) = true) ∧ ((x11 == 0) = true) ∧ (true = true) ∧ ((11 == 0) = false) ∧ ((11 == 0) = false) ∧ e) (by kernel_rfl) ⟨h1, h2, h2, h2, decide_eq_true h3, decide_eq_true h3, h2, decide_eq_true h3, h2, rfl, h4, h4, rfl⟩ rfl
theorem f28_F_4 (x0 : Int) (x1 : Int) (x2 : ByteArray) (x3 : ByteArray) (H : AHeap) (prot : Nat) (x11 : Int) (x26 : Int) (x31 : Int) (h1 : callInf cfg 40 [Value.int IntKind.i64 x0] (List.length H) H = some (Value.int IntKind.i64 x11, H)) (h2 : (x11 == 0) = true) (h3 : ¬(x1 < 0)) (h4 : x1 > 4) (h5 : (11 == 0) = true) (h6 : callInf cfg 31 [Value.int IntKind.i64 x0, Value.string x2] (List.length H) H = some (Value.int IntKind.i64 x26, H)) (h7 : (x26 == 0) = true) (h8 : callInf cfg 31 [Value.int IntKind.i64 x0, Value.string x3] (List.length H) H = some (Value.int IntKind.i64 x31, H)) : callInf cfg 28 [.int .i64 x0, .int .i64 x1, .string x2, .string x3] prot H = some (Value.int IntKind.i64 x31, H) :=
  fn_of a28 [.v (.int .i64 x11), .e, .b true, .b true, .e, .b true, .b false, .b false, .e, .b true, .b false, .b true, .b true, .e, .b true, .v (.int .i64 x26), .e, .b true, .v (.int .i64 x31)] (fun e => (callInf cfg 40 [Value.int IntKind.i64 x0] (List.length H) H = some (Value.int IntKind.i64 x11, H)) ∧ ((x11 == 0) = true) ∧ ((x11 == 0) = true) ∧ ((x11 == 0) = true) ∧ (decide (x1 < 0) = false) ∧ (decide (x1 < 0) = false) ∧ ((x11 == 0) = true) ∧ (decide (x1 < 0) = false) ∧ ((x11 == 0) = true) ∧ (decide (x1 > 4) = true) ∧ ((11 == 0) = true) ∧ (callInf cfg 31 [Value.int IntKind.i64 x0, Value.string x2] (List.length H) H = some (Value.int IntKind.i64 x26, H)) ∧ ((x26 == 0) = true) ∧ (callInf cfg 31 [Value.int IntKind.i64 x0, Value.string x3] (List.length H) H = some (Value.int IntKind.i64 x31, H)) ∧ e) (by kernel_rfl) ⟨h1, h2, h2, h2, decide_eq_false h3, decide_eq_false h3, h2, decide_eq_false h3, h2, decide_eq_true h4, h5, h6, h7, h8, rfl⟩ rfl
theorem f28_F_5 (x0 : Int) (x1 : Int) (x2 : ByteArray) (x3 : ByteArray) (H : AHeap) (prot : Nat) (x11 : Int) (x26 : Int) (h1 : callInf cfg 40 [Value.int IntKind.i64 x0] (List.length H) H = some (Value.int IntKind.i64 x11, H)) (h2 : (x11 == 0) = true) (h3 : ¬(x1 < 0)) (h4 : x1 > 4) (h5 : (11 == 0) = true) (h6 : callInf cfg 31 [Value.int IntKind.i64 x0, Value.string x2] (List.length H) H = some (Value.int IntKind.i64 x26, H)) (h7 : (x26 == 0) = false) : callInf cfg 28 [.int .i64 x0, .int .i64 x1, .string x2, .string x3] prot H = some (Value.int IntKind.i64 x26, H) :=
  fn_of a28 [.v (.int .i64 x11), .e, .b true, .b true, .e, .b true, .b false, .b false, .e, .b true, .b false, .b true, .b true, .e, .b true, .v (.int .i64 x26), .e, .b false] (fun e => (callInf cfg 40 [Value.int IntKind.i64 x0] (List.length H) H = some (Value.int IntKind.i64 x11, H)) ∧ ((x11 == 0) = true) ∧ ((x11 == 0) = true) ∧ ((x11 == 0) = true) ∧ (decide (x1 < 0) = false) ∧ (decide (x1 < 0) = false) ∧ ((x11 == 0) = true) ∧ (decide (x1 < 0) = false) ∧ ((x11 == 0) = true) ∧ (decide (x1 > 4) = true) ∧ ((11 == 0) = true) ∧ (callInf cfg 31 [Value.int IntKind.i64 x0, Value.string x2] (List.length H) H = some (Value.int IntKind.i64 x26, H)) ∧ ((x26 == 0) = false) ∧ e) (by kernel_rfl) ⟨h1, h2, h2, h2, decide_eq_false h3, decide_eq_false h3, h2, decide_eq_false h3, h2, decide_eq_true h4, h5, h6, h7, rfl⟩ rfl
theorem f28_F_7 (x0 : Int) (x1 : Int) (x2 : ByteArray) (x3 : ByteArray) (H : AHeap) (prot : Nat) (x11 : Int) (h1 : callInf cfg 40 [Value.int IntKind.i64 x0] (List.length H) H = some (Value.int IntKind.i64 x11, H)) (h2 : (x11 == 0) = true) (h3 : ¬(x1 < 0)) (h4 : x1 > 4) (h5 : (11 == 0) = false) : callInf cfg 28 [.int .i64 x0, .int .i64 x1, .string x2, .string x3] prot H = some (Value.int IntKind.i64 11, H) :=
  fn_of a28 [.v (.int .i64 x11), .e, .b true, .b true, .e, .b true, .b false, .b false, .e, .b true, .b false, .b true, .b true, .e, .b false, .e, .b false] (fun e => (callInf cfg 40 [Value.int IntKind.i64 x0] (List.length H) H = some (Value.int IntKind.i64 x11, H)) ∧ ((x11 == 0) = true) ∧ ((x11 == 0) = true) ∧ ((x11 == 0) = true) ∧ (decide (x1 < 0) = false) ∧ (decide (x1 < 0) = false) ∧ ((x11 == 0) = true) ∧ (decide (x1 < 0) = false) ∧ ((x11 == 0) = true) ∧ (decide (x1 > 4) = true) ∧ ((11 == 0) = false) ∧ ((11 == 0) = false) ∧ e) (by kernel_rfl) ⟨h1, h2, h2, h2, decide_eq_false h3, decide_eq_false h3, h2, decide_eq_false h3, h2, decide_eq_true h4, h5, h5, rfl⟩ rfl
theorem f28_F_8 (x0 : Int) (x1 : Int) (x2 : ByteArray) (x3 : ByteArray) (H : AHeap) (prot : Nat) (x11 : Int) (x26 : Int) (x31 : Int) (h1 : callInf cfg 40 [Value.int IntKind.i64 x0] (List.length H) H = some (Value.int IntKind.i64 x11, H)) (h2 : (x11 == 0) = true) (h3 : ¬(x1 < 0)) (h4 : ¬(x1 > 4)) (h5 : callInf cfg 31 [Value.int IntKind.i64 x0, Value.string x2] (List.length H) H = some (Value.int IntKind.i64 x26, H)) (h6 : (x26 == 0) = true) (h7 : callInf cfg 31 [Value.int IntKind.i64 x0, Value.string x3] (List.length H) H = some (Value.int IntKind.i64 x31, H)) : callInf cfg 28 [.int .i64 x0, .int .i64 x1, .string x2, .string x3] prot H = some (Value.int IntKind.i64 x31, H) :=
  fn_of a28 [.v (.int .i64 x11), .e, .b true, .b true, .e, .b true, .b false, .b false, .e, .b true, .b false, .b true, .b false, .e, .b true, .v (.int .i64 x26), .e, .b true, .v (.int .i64 x31)] (fun e => (callInf cfg 40 [Value.int IntKind.i64 x0] (List.length H) H = some (Value.int IntKind.i64 x11, H)) ∧ ((x11 == 0) = true) ∧ ((x11 == 0) = true) ∧ ((x11 == 0) = true) ∧ (decide (x1 < 0) = false) ∧ (decide (x1 < 0) = false) ∧ ((x11 == 0) = true) ∧ (decide (x1 < 0) = false) ∧ ((x11 == 0) = true) ∧ (decide (x1 > 4) = false) ∧ ((x11 == 0) = true) ∧ (callInf cfg 31 [Value.int IntKind.i64 x0, Value.string x2] (List.length H) H = some (Value.int IntKind.i64 x26, H)) ∧ ((x26 == 0) = true) ∧ (callInf cfg 31 [Value.int IntKind.i64 x0, Value.string x3] (List.length H) H = some (Value.int IntKind.i64 x31, H)) ∧ e) (by kernel_rfl) ⟨h1, h2, h2, h2, decide_eq_false h3, decide_eq_false h3, h2, decide_eq_false h3, h2, decide_eq_false h4, h2, h5, h6, h7, rfl⟩ rfl
theorem f28_F_9 (x0 : Int) (x1 : Int) (x2 : ByteArray) (x3 : ByteArray) (H : AHeap) (prot : Nat) (x11 : Int) (x26 : Int) (h1 : callInf cfg 40 [Value.int IntKind.i64 x0] (List.length H) H = some (Value.int IntKind.i64 x11, H)) (h2 : (x11 == 0) = true) (h3 : ¬(x1 < 0)) (h4 : ¬(x1 > 4)) (h5 : callInf cfg 31 [Value.int IntKind.i64 x0, Value.string x2] (List.length H) H = some (Value.int IntKind.i64 x26, H)) (h6 : (x26 == 0) = false) : callInf cfg 28 [.int .i64 x0, .int .i64 x1, .string x2, .string x3] prot H = some (Value.int IntKind.i64 x26, H) :=
  fn_of a28 [.v (.int .i64 x11), .e, .b true, .b true, .e, .b true, .b false, .b false, .e, .b true, .b false, .b true, .b false, .e, .b true, .v (.int .i64 x26), .e, .b false] (fun e => (callInf cfg 40 [Value.int IntKind.i64 x0] (List.length H) H = some (Value.int IntKind.i64 x11, H)) ∧ ((x11 == 0) = true) ∧ ((x11 == 0) = true) ∧ ((x11 == 0) = true) ∧ (decide (x1 < 0) = false) ∧ (decide (x1 < 0) = false) ∧ ((x11 == 0) = true) ∧ (decide (x1 < 0) = false) ∧ ((x11 == 0) = true) ∧ (decide (x1 > 4) = false) ∧ ((x11 == 0) = true) ∧ (callInf cfg 31 [Value.int IntKind.i64 x0, Value.string x2] (List.length H) H = some (Value.int IntKind.i64 x26, H)) ∧ ((x26 == 0) = false) ∧ e) (by kernel_rfl) ⟨h1, h2, h2, h2, decide_eq_false h3, decide_eq_false h3, h2, decide_eq_false h3, h2, decide_eq_false h4, h2, h5, h6, rfl⟩ rfl
theorem f28_F_15 (x0 : Int) (x1 : Int) (x2 : ByteArray) (x3 : ByteArray) (H : AHeap) (prot : Nat) (x11 : Int) (h1 : callInf cfg 40 [Value.int IntKind.i64 x0] (List.length H) H = some (Value.int IntKind.i64 x11, H)) (h2 : (x11 == 0) = false) : callInf cfg 28 [.int .i64 x0, .int .i64 x1, .string x2, .string x3] prot H = some (Value.int IntKind.i64 x11, H) :=
  fn_of a28 [.v (.int .i64 x11), .e, .b false, .b false, .b false, .b false, .b false, .b false, .e, .b false, .e, .b false] (fun e => (callInf cfg 40 [Value.int IntKind.i64 x0] (List.length H) H = some (Value.int IntKind.i64 x11, H)) ∧ ((x11 == 0) = false) ∧ ((x11 == 0) = false) ∧ ((x11 == 0) = false) ∧ ((x11 == 0) = false) ∧ ((x11 == 0) = false) ∧ (false = false) ∧ ((x11 == 0) = false) ∧ ((x11 == 0) = false) ∧ e) (by kernel_rfl) ⟨h1, h2, h2, h2, h2, h2, rfl, h2, h2, rfl⟩ rfl
end Go.Proofs.Ytedfombojnfbiaa.Am24
namespace Go.Proofs.Ytedfombojnfbiaa.Am24
open Go Go.Proofs.Ytedfombojnfbiaa.Am

theorem T22 : ElemT cfg.P 22 9 1 16 := ⟨by kernel_rfl, by kernel_rfl, by kernel_rfl, ⟨.string ⟨#[]⟩, by kernel_rfl, rfl⟩, by kernel_rfl, by omega, by omega⟩
/-- Strings as cells. -/
def sc (l : List ByteArray) : List Value := l.map .string
theorem sc_get {l : List ByteArray} {i : Nat} {w : ByteArray} (h : l[i]? = some w) : (sc l)[i]? = some (.string w) := by simp [sc, h]

/-- The first error of some words. -/
def chks (k : Int) : List ByteArray → Int
  | [] => 0
  | w :: l => if chk k w = 0 then chks k l else chk k w

theorem loop26 {k : Int} {a : Option Addr} {n c : Nat} {o : Option Nat} {l : List ByteArray} (H0 H : AHeap) (prot : Nat) (hx : Own H 9 1 (.slice a n c) o n (sc l)) (hn : n ≤ 1000) : ∀ (d i : Nat), i + d = n →
    lpInf (lpOf cfg a26 0 prot H0) ([.int .i64 k, .slice a n c, .int .i64 n, .int .i64 i], H) = some (if chks k (l.drop i) = 0 then (.exit 0, [.tuple #[]], H) else (.ret, [.int .i64 (chks k (l.drop i))], H))
  | 0, i, hi => by
    have hl : l.length = n := by have := hx.1; simpa [sc] using this
    have : l.drop i = [] := by rw [List.drop_eq_nil_iff]; omega
    rw [this]
    exact lp_last (f26_L0_2 k a n c n i H0 prot H (by omega))
  | d + 1, i, hi => by
    have hl : l.length = n := by have := hx.1; simpa [sc] using this
    have hil : i < l.length := by omega
    obtain ⟨id, _, g1, g2⟩ := own_at T22 hx (sc_get (List.getElem?_eq_getElem hil))
    by_cases h0 : chk k l[i] = 0
    · have c := c37 k l[i] H0.length H
      rw [h0] at c
      have e : chks k (l.drop i) = chks k (l.drop (i + 1)) := by rw [List.drop_eq_getElem_cons hil]; simp only [chks, if_pos h0]
      rw [e]
      exact lp_next (f26_L0_1 k a n _ n i H0 prot H id i _ l[i] 0 (by omega) g1 g2 c rfl (fit64 (by omega) (by omega))) (loop26 H0 H prot hx hn d (i + 1) (by omega))
    · have e : chks k (l.drop i) = chk k l[i] := by rw [List.drop_eq_getElem_cons hil]; simp only [chks, if_neg h0]
      rw [e, if_neg h0]
      exact lp_last (f26_L0_0 k a n c n i H0 prot H id i _ l[i] (chk k l[i]) (by omega) g1 g2 (c37 _ _ _ _) (by simpa using h0))

/-- What pieces.check answers. -/
def pchk (k n : Int) (l : List ByteArray) : Int := if k < 1 ∨ k > 8 then 20 else if n < 0 ∨ n > 4 then 11 else chks k l

theorem c26 {k n : Int} {a : Option Addr} {m c : Nat} {o : Option Nat} {l : List ByteArray} (prot : Nat) (H : AHeap) (hx : Own H 9 1 (.slice a m c) o m (sc l)) (hm : m ≤ 1000) :
    callInf cfg 26 [.int .i64 k, .int .i64 n, .slice a m c] prot H = some (.int .i64 (pchk k n l), H) := by
  unfold pchk
  by_cases h1 : k < 1
  · rw [if_pos (.inl h1)]; exact f26_F_0 k n a m c H prot h1
  · by_cases h2 : k > 8
    · rw [if_pos (.inr h2)]; exact f26_F_1 k n a m c H prot h1 h2
    · rw [if_neg (by omega)]
      by_cases h3 : n < 0
      · rw [if_pos (.inl h3)]; exact f26_F_2 k n a m c H prot h1 h2 h3
      · by_cases h4 : n > 4
        · rw [if_pos (.inr h4)]; exact f26_F_3 k n a m c H prot h1 h2 h3 h4
        · rw [if_neg (by omega)]
          have h := loop26 (k := k) H H prot hx hm m 0 (by omega)
          rw [List.drop_zero] at h
          by_cases h0 : chks k l = 0
          · rw [if_pos h0] at h; rw [h0]; exact f26_F_4 k n a m c H prot _ H h1 h2 h3 h4 h
          · rw [if_neg h0] at h; exact f26_F_5 k n a m c H prot _ H h1 h2 h3 h4 h

/-- What the document's wrong answers. -/
theorem c28 (k n : Int) (u v : ByteArray) (hu : u.size < 9223372036854775807) (hv : v.size < 9223372036854775807) (prot : Nat) (H : AHeap) :
    callInf cfg 28 [.int .i64 k, .int .i64 n, .string u, .string v] prot H = some (.int .i64 (pchk k n [u, v]), H) := by
  have hl := c40 k H.length H
  have hu' := c31 k u hu H.length H
  have hv' := c31 k v hv H.length H
  unfold pchk
  by_cases h1 : k < 1 ∨ k > 8
  · rw [if_pos h1]
    have : lets k = 20 := by unfold lets; rw [if_pos h1]
    rw [this] at hl
    exact f28_F_15 k n u v H prot 20 hl rfl
  · rw [if_neg h1]
    have : lets k = 0 := by unfold lets; rw [if_neg h1]
    rw [this] at hl
    by_cases h3 : n < 0
    · rw [if_pos (.inl h3)]; exact f28_F_3 k n u v H prot 0 hl rfl h3 rfl
    · by_cases h4 : n > 4
      · rw [if_pos (.inr h4)]; exact f28_F_7 k n u v H prot 0 hl rfl h3 h4 rfl
      · rw [if_neg (by omega)]
        by_cases h5 : chk k u = 0
        · rw [h5] at hu'
          have e : chks k [u, v] = chk k v := by
            simp only [chks, if_pos h5]
            by_cases h6 : chk k v = 0
            · rw [if_pos h6, h6]
            · rw [if_neg h6]
          rw [e]
          exact f28_F_8 k n u v H prot 0 0 _ hl rfl h3 h4 hu' rfl hv'
        · have e : chks k [u, v] = chk k u := by simp only [chks, if_neg h5]
          rw [e]
          exact f28_F_9 k n u v H prot 0 _ hl rfl h3 h4 hu' (by simpa using h5)
end Go.Proofs.Ytedfombojnfbiaa.Am24
set_option linter.unusedVariables false
open Go Go.Proofs.Ytedfombojnfbiaa.Am
namespace Go.Proofs.Ytedfombojnfbiaa.Am24
theorem f35_F_0 (x0 : Int) (x1 : Int) (H : AHeap) (prot : Nat) (z5a : Option Addr) (z5n : Nat) (z5c : Nat) (H1 : AHeap) (rv : Value) (rH : AHeap) (h1 : lpInf (lpOf cfg a35 0 prot H) ([Value.int IntKind.i64 x0, Value.int IntKind.i64 x1, Value.slice (some { block := List.length H, off := 0, spot := some (1 * 1) }) 1 1, Value.int IntKind.i64 0], H ++ [AObj.cells [Value.string { data := { toList := [] } }] 9 [Value.string { data := { toList := [] } }].length OMode.row]) = some (Ex.exit 0, [Value.slice z5a z5n z5c], H1)) (h2 : pfin a35 H [Value.slice z5a z5n z5c] H1 = (rv, rH)) : callInf cfg 35 [.int .i64 x0, .int .i64 x1] prot H = some (rv, rH) :=
  fn_of' a35 [.e, .lo (.exit 0, [.slice z5a z5n z5c], H1)] ((lpInf (lpOf cfg a35 0 prot H) ([Value.int IntKind.i64 x0, Value.int IntKind.i64 x1, Value.slice (some { block := List.length H, off := 0, spot := some (1 * 1) }) 1 1, Value.int IntKind.i64 0], H ++ [AObj.cells [Value.string { data := { toList := [] } }] 9 [Value.string { data := { toList := [] } }].length OMode.row]) = some (Ex.exit 0, [Value.slice z5a z5n z5c], H1)) ∧ (pfin a35 H [Value.slice z5a z5n z5c] H1 = (rv, rH))) (by kernel_rfl) ⟨h1, h2⟩ rfl
theorem f35_L0_0 (x0 : Int) (x1 : Int) (x5a : Option Addr) (x5n : Nat) (x5c : Nat) (x6 : Int) (H0 : AHeap) (prot : Nat) (H : AHeap) (x17p : Nat) (x17o : Nat) (x17l : Nat) (x18 : ByteArray) (h1 : x6 < (↑x5n : Int)) (h2 : aindexAddr cfg.P 22 (Value.slice x5a x5n x5c) (Value.int IntKind.i64 x6) = some (Value.pointer (some { block := x17p, off := x17o, spot := some x17l }))) (h3 : getCells H x17p x17l x17o 1 = some [Value.string x18]) (h4 : ((↑x18.size : Int) == x1) = true) : lpOf cfg a35 0 prot H0 ([.int .i64 x0, .int .i64 x1, .slice x5a x5n x5c, .int .i64 x6], H) = some (Sum.inr (Ex.exit 0, [Value.slice x5a x5n x5c], H)) :=
  lp_of [.e, .e, .b true, .v (.pointer (some ⟨x17p, x17o, some x17l⟩)), .v (.string x18), .e, .e, .b true] (fun e => (decide (x6 < (↑x5n : Int)) = true) ∧ (aindexAddr cfg.P 22 (Value.slice x5a x5n x5c) (Value.int IntKind.i64 x6) = some (Value.pointer (some { block := x17p, off := x17o, spot := some x17l }))) ∧ (getCells H x17p x17l x17o 1 = some [Value.string x18]) ∧ (((↑x18.size : Int) == x1) = true) ∧ e) (by kernel_rfl) ⟨decide_eq_true h1, h2, h3, h4, rfl⟩
theorem f35_L0_1 (x0 : Int) (x1 : Int) (x5a : Option Addr) (x5n : Nat) (x5c : Nat) (x6 : Int) (H0 : AHeap) (prot : Nat) (H : AHeap) (x17p : Nat) (x17o : Nat) (x17l : Nat) (x18 : ByteArray) (z0 : Int) (z1 : Int) (z5a : Option Addr) (z5n : Nat) (z5c : Nat) (z6 : Int) (H2 : AHeap) (h1 : x6 < (↑x5n : Int)) (h2 : aindexAddr cfg.P 22 (Value.slice x5a x5n x5c) (Value.int IntKind.i64 x6) = some (Value.pointer (some { block := x17p, off := x17o, spot := some x17l }))) (h3 : getCells H x17p x17l x17o 1 = some [Value.string x18]) (h4 : ((↑x18.size : Int) == x1) = false) (h5 : lpInf (lpOf cfg a35 1 prot H0) ([Value.int IntKind.i64 x0, Value.int IntKind.i64 x1, Value.slice x5a x5n x5c, Value.int IntKind.i64 x6, Value.int IntKind.i64 0], H) = some (Ex.exit 2, [Value.int IntKind.i64 z0, Value.int IntKind.i64 z1, Value.slice z5a z5n z5c, Value.int IntKind.i64 z6], H2)) (h6 : Fit IntKind.i64 (z6 + 1)) : lpOf cfg a35 0 prot H0 ([.int .i64 x0, .int .i64 x1, .slice x5a x5n x5c, .int .i64 x6], H) = some (Sum.inl ([Value.int IntKind.i64 z0, Value.int IntKind.i64 z1, Value.slice z5a z5n z5c, Value.int IntKind.i64 (z6 + 1)], H2)) :=
  lp_of [.e, .e, .b true, .v (.pointer (some ⟨x17p, x17o, some x17l⟩)), .v (.string x18), .e, .e, .b false, .lo (.exit 2, [.int .i64 z0, .int .i64 z1, .slice z5a z5n z5c, .int .i64 z6], H2), .e] (fun e => (decide (x6 < (↑x5n : Int)) = true) ∧ (aindexAddr cfg.P 22 (Value.slice x5a x5n x5c) (Value.int IntKind.i64 x6) = some (Value.pointer (some { block := x17p, off := x17o, spot := some x17l }))) ∧ (getCells H x17p x17l x17o 1 = some [Value.string x18]) ∧ (((↑x18.size : Int) == x1) = false) ∧ (lpInf (lpOf cfg a35 1 prot H0) ([Value.int IntKind.i64 x0, Value.int IntKind.i64 x1, Value.slice x5a x5n x5c, Value.int IntKind.i64 x6, Value.int IntKind.i64 0], H) = some (Ex.exit 2, [Value.int IntKind.i64 z0, Value.int IntKind.i64 z1, Value.slice z5a z5n z5c, Value.int IntKind.i64 z6], H2)) ∧ (Fit IntKind.i64 (z6 + 1)) ∧ e) (by kernel_rfl) ⟨decide_eq_true h1, h2, h3, h4, h5, h6, rfl⟩
theorem f35_L0_2 (x0 : Int) (x1 : Int) (x5a : Option Addr) (x5n : Nat) (x5c : Nat) (x6 : Int) (H0 : AHeap) (prot : Nat) (H : AHeap) (h1 : ¬(x6 < (↑x5n : Int))) : lpOf cfg a35 0 prot H0 ([.int .i64 x0, .int .i64 x1, .slice x5a x5n x5c, .int .i64 x6], H) = some (Sum.inr (Ex.exit 0, [Value.slice x5a x5n x5c], H)) :=
  lp_of [.e, .e, .b false] (fun e => (decide (x6 < (↑x5n : Int)) = false) ∧ e) (by kernel_rfl) ⟨decide_eq_false h1, rfl⟩
theorem f35_L1_0 (x0 : Int) (x1 : Int) (x5a : Option Addr) (x5n : Nat) (x5c : Nat) (x6 : Int) (x7 : Int) (H0 : AHeap) (prot : Nat) (H : AHeap) (x30p : Nat) (x30o : Nat) (x30l : Nat) (x31 : ByteArray) (x36 : ByteArray) (x39a : Option Addr) (x39n : Nat) (x39c : Nat) (H2 : AHeap) (h1 : x7 < x0) (h2 : aindexAddr cfg.P 22 (Value.slice x5a x5n x5c) (Value.int IntKind.i64 x6) = some (Value.pointer (some { block := x30p, off := x30o, spot := some x30l }))) (h3 : getCells H x30p x30l x30o 1 = some [Value.string x31]) (h4 : Fit IntKind.i64 (97 + x7)) (h5 : aconv cfg.P 79 9 (Value.slice (some { block := List.length H, off := 0, spot := some (1 * 1) }) 1 1) (H ++ [AObj.cells [Value.int IntKind.u8 (IntKind.u8.wrap (97 + x7))] 5 [Value.int IntKind.u8 (IntKind.u8.wrap (97 + x7))].length OMode.row]) = some (Value.string x36)) (h6 : x31.size + x36.size ≤ 9223372036854775807) (h7 : aappend cfg.P (List.length H0) false 22 22 (Value.slice x5a x5n x5c) (Value.slice (some { block := List.length (H ++ [AObj.cells [Value.int IntKind.u8 (IntKind.u8.wrap (97 + x7))] 5 [Value.int IntKind.u8 (IntKind.u8.wrap (97 + x7))].length OMode.row]), off := 0, spot := some (1 * 1) }) 1 1) (H ++ [AObj.cells [Value.int IntKind.u8 (IntKind.u8.wrap (97 + x7))] 5 [Value.int IntKind.u8 (IntKind.u8.wrap (97 + x7))].length OMode.row] ++ [AObj.cells [Value.string (x31 ++ x36)] 9 [Value.string (x31 ++ x36)].length OMode.row]) = some (Value.slice x39a x39n x39c, H2)) (h8 : Fit IntKind.i64 (x7 + 1)) : lpOf cfg a35 1 prot H0 ([.int .i64 x0, .int .i64 x1, .slice x5a x5n x5c, .int .i64 x6, .int .i64 x7], H) = some (Sum.inl ([Value.int IntKind.i64 x0, Value.int IntKind.i64 x1, Value.slice x39a x39n x39c, Value.int IntKind.i64 x6, Value.int IntKind.i64 (x7 + 1)], H2)) :=
  lp_of [.e, .b true, .v (.pointer (some ⟨x30p, x30o, some x30l⟩)), .v (.string x31), .e, .e, .e, .v (.string x36), .e, .e, .r (.slice x39a x39n x39c) H2, .e] (fun e => (decide (x7 < x0) = true) ∧ (aindexAddr cfg.P 22 (Value.slice x5a x5n x5c) (Value.int IntKind.i64 x6) = some (Value.pointer (some { block := x30p, off := x30o, spot := some x30l }))) ∧ (getCells H x30p x30l x30o 1 = some [Value.string x31]) ∧ (Fit IntKind.i64 (97 + x7)) ∧ (aconv cfg.P 79 9 (Value.slice (some { block := List.length H, off := 0, spot := some (1 * 1) }) 1 1) (H ++ [AObj.cells [Value.int IntKind.u8 (IntKind.u8.wrap (97 + x7))] 5 [Value.int IntKind.u8 (IntKind.u8.wrap (97 + x7))].length OMode.row]) = some (Value.string x36)) ∧ (x31.size + x36.size ≤ 9223372036854775807) ∧ (aappend cfg.P (List.length H0) false 22 22 (Value.slice x5a x5n x5c) (Value.slice (some { block := List.length (H ++ [AObj.cells [Value.int IntKind.u8 (IntKind.u8.wrap (97 + x7))] 5 [Value.int IntKind.u8 (IntKind.u8.wrap (97 + x7))].length OMode.row]), off := 0, spot := some (1 * 1) }) 1 1) (H ++ [AObj.cells [Value.int IntKind.u8 (IntKind.u8.wrap (97 + x7))] 5 [Value.int IntKind.u8 (IntKind.u8.wrap (97 + x7))].length OMode.row] ++ [AObj.cells [Value.string (x31 ++ x36)] 9 [Value.string (x31 ++ x36)].length OMode.row]) = some (Value.slice x39a x39n x39c, H2)) ∧ (Fit IntKind.i64 (x7 + 1)) ∧ e) (by kernel_rfl) ⟨decide_eq_true h1, h2, h3, h4, h5, h6, h7, h8, rfl⟩
theorem f35_L1_1 (x0 : Int) (x1 : Int) (x5a : Option Addr) (x5n : Nat) (x5c : Nat) (x6 : Int) (x7 : Int) (H0 : AHeap) (prot : Nat) (H : AHeap) (h1 : ¬(x7 < x0)) : lpOf cfg a35 1 prot H0 ([.int .i64 x0, .int .i64 x1, .slice x5a x5n x5c, .int .i64 x6, .int .i64 x7], H) = some (Sum.inr (Ex.exit 2, [Value.int IntKind.i64 x0, Value.int IntKind.i64 x1, Value.slice x5a x5n x5c, Value.int IntKind.i64 x6], H)) :=
  lp_of [.e, .b false] (fun e => (decide (x7 < x0) = false) ∧ e) (by kernel_rfl) ⟨decide_eq_false h1, rfl⟩
end Go.Proofs.Ytedfombojnfbiaa.Am24
namespace Go.Proofs.Ytedfombojnfbiaa.Am24
open Go Go.Proofs.Ytedfombojnfbiaa.Am

theorem strOf_append (a b : List Nat) : strOf a ++ strOf b = strOf (a ++ b) := by
  apply ByteArray.ext
  rw [ByteArray.data_append]
  simp [strOf]
theorem strOf_size (a : List Nat) : (strOf a).size = a.length := by
  simp [strOf, ByteArray.size]

theorem conv1 (H : AHeap) {c : Nat} (hc : c < 100) : aconv cfg.P 79 9 (.slice (some ⟨H.length, 0, some (1 * 1)⟩) 1 1) (H ++ [.cells [.int .u8 (IntKind.u8.wrap (97 + (c : Int)))] 5 [Value.int .u8 (IntKind.u8.wrap (97 + (c : Int)))].length .row]) = some (.string (strOf [97 + c])) := by
  have e : IntKind.u8.wrap (97 + (c : Int)) = ((97 + c : Nat) : Int) := by
    rw [show (97 : Int) + (c : Int) = ((97 + c : Nat) : Int) by omega]
    exact u8_small (by omega)
  rw [e]
  unfold aconv
  have u1 : cfg.P.underlying 79 = some (.slice 5) := by kernel_rfl
  have u2 : cfg.P.underlying 9 = some .string := by kernel_rfl
  have u3 : cfg.P.underlying 5 = some (.int .u8) := by kernel_rfl
  rw [u1, u2]
  simp only
  rw [u3]
  simp only [cellsAt]
  unfold getCells
  rw [append_get.1]
  rfl

/-- The words of the first m numbers. -/
def wds (k m : Nat) : List ByteArray := (List.range m).map (txt k)
theorem wds_len (k m : Nat) : (wds k m).length = m := by simp [wds]
theorem wds_succ (k m : Nat) : wds k (m + 1) = wds k m ++ [txt k m] := by simp [wds, List.range_succ]
theorem wds_get {k m i : Nat} (h : i < m) : (wds k m)[i]? = some (txt k i) := by simp [wds, h]
theorem sc_append (a b : List ByteArray) : sc (a ++ b) = sc a ++ sc b := by simp [sc]

theorem txt_size {k i n : Nat} (hk1 : 1 ≤ k) (hi : i < sho k (n + 1)) : (txt k i).size ≤ n := by
  rw [txt_eq, strOf_size]
  cases Nat.lt_or_ge n (wl k i).length with
  | inr h => exact h
  | inl h =>
    have := ((wl_len hk1 i _).1 rfl).1
    have := sho_mono (k := k) (show n + 1 ≤ (wl k i).length by omega)
    omega
theorem txt_step {k i c : Nat} (hc : c < k) : txt k i ++ strOf [97 + c] = txt k (k * i + c + 1) := by rw [txt_eq, txt_eq, wl_step hc, strOf_append]

theorem loop35i {k : Nat} (hk1 : 1 ≤ k) (hk : k ≤ 8) {n i : Nat} (hn : n ≤ 4) (hi : i < sho k n) (H0 : AHeap) (prot : Nat) : ∀ (d c : Nat) (x : Value) (o : Option Nat) (H : AHeap), c + d = k →
    Own H 9 1 x o (k * i + c + 1) (sc (wds k (k * i + c + 1))) → (∀ id, o = some id → H0.length ≤ id) → H0.length ≤ H.length →
    ∃ x' o' H', lpInf (lpOf cfg a35 1 prot H0) ([.int .i64 k, .int .i64 n, x, .int .i64 i, .int .i64 c], H) = some (.exit 2, [.int .i64 k, .int .i64 n, x', .int .i64 i], H') ∧ Own H' 9 1 x' o' (k * (i + 1) + 1) (sc (wds k (k * (i + 1) + 1))) ∧ (∀ id, o' = some id → H0.length ≤ id) ∧ H0.length ≤ H'.length
  | 0, c, x, o, H, hc, hx, ho, hH => by
    have : c = k := by omega
    subst this
    obtain ⟨a, cc, rfl⟩ := hx.len
    exact ⟨_, o, H, lp_last (f35_L1_1 c n a _ cc i c H0 prot H (by omega)), by rw [show c * (i + 1) + 1 = c * i + c + 1 by rw [Nat.mul_add, Nat.mul_one]]; exact hx, ho, hH⟩
  | d + 1, c, x, o, H, hc, hx, ho, hH => by
    obtain ⟨a, cc, rfl⟩ := hx.len
    have hik : i < k * i + c + 1 := by
      have := Nat.mul_le_mul (show 1 ≤ k by omega) (Nat.le_refl i)
      omega
    have hroom := sho_room hk hn
    have hki : k * i + k ≤ k * sho k n := by
      have := Nat.mul_le_mul (Nat.le_refl k) (show i + 1 ≤ sho k n by omega)
      rw [Nat.mul_add] at this
      omega
    obtain ⟨id, _, g1, g2⟩ := own_at T22 hx (sc_get (wds_get hik))
    let bo : AObj := .cells [.int .u8 (IntKind.u8.wrap (97 + (c : Int)))] 5 [Value.int .u8 (IntKind.u8.wrap (97 + (c : Int)))].length .row
    have hx1 := hx.stay (Stay.app none H [bo]) (fun id h => by simp)
    obtain ⟨x', o', H', h1, h2, h3, h4⟩ := own_append T22 hx1 (ecs := [.string (txt k i ++ strOf [97 + c])]) rfl rfl (prot := H0.length) (room := false) ho (by omega) (L := 1 * 1) rfl (el := [Value.string (txt k i ++ strOf [97 + c])].length) rfl
    obtain ⟨a', c', rfl⟩ := h2.len
    have hsz := txt_size (n := n) hk1 (Nat.lt_of_lt_of_le hi (sho_mono (by omega)))
    have step := f35_L1_0 k n a _ cc i c H0 prot H id i _ (txt k i) (strOf [97 + c]) a' _ c' H' (by omega) g1 g2 (fit64 (by omega) (by omega)) (conv1 H (by omega)) (by rw [strOf_size]; simp only [List.length_cons, List.length_nil]; omega) h1 (fit64 (by omega) (by omega))
    have hw : sc (wds k (k * i + c + 1)) ++ [.string (txt k i ++ strOf [97 + c])] = sc (wds k (k * i + (c + 1) + 1)) := by
      rw [txt_step (by omega), show k * i + (c + 1) + 1 = k * i + c + 1 + 1 by omega, wds_succ k (k * i + c + 1), sc_append]
      rfl
    rw [hw] at h2
    have ho' : ∀ id, some o' = some id → H0.length ≤ id := fun id hid => by
      cases hid
      rcases h4 with h4 | ⟨_, h4⟩
      · exact ho _ h4
      · simp at h4; omega
    obtain ⟨x2, o2, H2, r1, r2, r3, r4⟩ := loop35i hk1 hk hn hi H0 prot d (c + 1) _ (some o') H' (by omega) h2 ho' (by have := h3.1; simp at this; omega)
    exact ⟨x2, o2, H2, lp_next step r1, r2, r3, r4⟩

theorem sc_plain (l : List ByteArray) : (sc l).all plain0 = true := by
  rw [List.all_eq_true]
  intro v hv
  obtain ⟨n, _, rfl⟩ := List.mem_map.1 hv
  rfl

theorem loop35 {k : Nat} (hk1 : 1 ≤ k) (hk : k ≤ 8) {n : Nat} (hn : n ≤ 4) (H0 : AHeap) (prot : Nat) : ∀ (d i : Nat) (x : Value) (o : Option Nat) (H : AHeap), i + d = sho k n →
    Own H 9 1 x o (k * i + 1) (sc (wds k (k * i + 1))) → (∀ id, o = some id → H0.length ≤ id) → H0.length ≤ H.length →
    ∃ x' o' H', lpInf (lpOf cfg a35 0 prot H0) ([.int .i64 k, .int .i64 n, x, .int .i64 i], H) = some (.exit 0, [x'], H') ∧ Own H' 9 1 x' o' (sho k (n + 1)) (sc (wds k (sho k (n + 1)))) ∧ (∀ id, o' = some id → H0.length ≤ id)
  | 0, i, x, o, H, hi, hx, ho, hH => by
    have : i = sho k n := by omega
    subst this
    obtain ⟨a, cc, rfl⟩ := hx.len
    have hik : sho k n < k * sho k n + 1 := by
      have := Nat.mul_le_mul (show 1 ≤ k by omega) (Nat.le_refl (sho k n))
      omega
    obtain ⟨id, _, g1, g2⟩ := own_at T22 hx (sc_get (wds_get hik))
    have hb := sho_bound hk n (by omega)
    have hroom := sho_room hk hn
    have hlen : (txt k (sho k n)).size = n := by
      rw [txt_eq, strOf_size]
      refine (wl_len hk1 _ _).2 ⟨Nat.le_refl _, ?_⟩
      simp only [sho]
      have : 0 < k ^ n := Nat.pow_pos (by omega)
      omega
    have e : sho k (n + 1) = k * sho k n + 1 := by rw [sho_succ]; omega
    rw [e]
    exact ⟨_, o, H, lp_last (f35_L0_0 k n a _ cc (sho k n : Nat) H0 prot H id (sho k n) _ _ (by omega) g1 g2 (by rw [hlen]; simp)), hx, ho⟩
  | d + 1, i, x, o, H, hi, hx, ho, hH => by
    obtain ⟨a, cc, rfl⟩ := hx.len
    have hik : i < k * i + 1 := by
      have := Nat.mul_le_mul (show 1 ≤ k by omega) (Nat.le_refl i)
      omega
    obtain ⟨id, _, g1, g2⟩ := own_at T22 hx (sc_get (wds_get hik))
    have hb := sho_bound hk n (by omega)
    have hlen : ¬ (txt k i).size = n := by
      rw [txt_eq, strOf_size]
      intro e
      have := ((wl_len hk1 i n).1 e).1
      omega
    obtain ⟨x1, o1, H1, r1, r2, r3, r4⟩ := loop35i hk1 hk hn (i := i) (by omega) H0 prot k 0 _ o H (by omega) hx ho hH
    obtain ⟨a1, c1, rfl⟩ := r2.len
    have step := f35_L0_1 k n a _ cc i H0 prot H id i _ (txt k i) k n a1 _ c1 i H1 (by omega) g1 g2 (by simp; omega) r1 (fit64 (by omega) (by omega))
    obtain ⟨x2, o2, H2, q1, q2, q3⟩ := loop35 hk1 hk hn H0 prot d (i + 1) _ o1 H1 (by omega) r2 r3 r4
    exact ⟨x2, o2, H2, lp_next step q1, q2, q3⟩

theorem c35 {k n : Nat} (hk1 : 1 ≤ k) (hk : k ≤ 8) (hn : n ≤ 4) (prot : Nat) (H : AHeap) :
    ∃ x H', callInf cfg 35 [.int .i64 k, .int .i64 n] prot H = some (x, H') ∧ Own H' 9 1 x (some H.length) (sho k (n + 1)) (sc (wds k (sho k (n + 1)))) ∧ Stay none H H' := by
  have h0 : Own (H ++ [.cells [.string ⟨#[]⟩] 9 [Value.string ⟨#[]⟩].length .row]) 9 1 (.slice (some ⟨H.length, 0, some (1 * 1)⟩) 1 1) (some H.length) (k * 0 + 1) (sc (wds k (k * 0 + 1))) :=
    own_new (cs := [.string ⟨#[]⟩]) rfl (by omega) rfl rfl
  obtain ⟨x, o, H1, r1, r2, r3⟩ := loop35 hk1 hk hn H prot (sho k n) 0 _ (some H.length) _ (by omega) h0 (fun id h => by cases h; exact Nat.le_refl _) (by simp)
  have hpos : 0 < sho k (n + 1) := by rw [sho_succ]; omega
  obtain ⟨id, ho⟩ : ∃ id, o = some id := by
    cases o with
    | none => have := r2.2.1; omega
    | some id => exact ⟨id, rfl⟩
  subst ho
  obtain ⟨a, c, rfl⟩ := r2.len
  obtain ⟨H', g1, g2, g3⟩ := gc_own (H := H) r2 (r3 id rfl) (sc_plain _)
  refine ⟨_, H', f35_F_0 k n H prot a _ c H1 _ H' r1 ?_, g2, g3⟩
  rw [pfin_eq]
  exact g1
end Go.Proofs.Ytedfombojnfbiaa.Am24
namespace Go.Proofs.Ytedfombojnfbiaa.Am24
open Go Go.Proofs.Ytedfombojnfbiaa.Am

def bl (s : ByteArray) : List UInt8 := s.data.toList
theorem bl_len (s : ByteArray) : (bl s).length = s.size := rfl
theorem bl_get {s : ByteArray} {i : Nat} (h : i < s.size) : (bl s)[i]? = some (s.get! i) := by
  have h' : i < s.data.size := h
  unfold bl
  rw [Array.getElem?_toList, Array.getElem?_eq_getElem h']
  show some s.data[i] = some (s.data[i]!)
  rw [getElem!_pos s.data i h']
theorem bl_drop {s : ByteArray} {i : Nat} (h : i < s.size) : (bl s).drop i = s.get! i :: (bl s).drop (i + 1) := by
  have hl : i < (bl s).length := by rw [bl_len]; exact h
  rw [List.drop_eq_getElem_cons hl]
  have := bl_get h
  rw [List.getElem?_eq_getElem hl] at this
  rw [Option.some.inj this]

theorem cons_sub {α : Type} {a b : α} {l m : List α} : (a :: l).Sublist (b :: m) ↔ (a :: l).Sublist m ∨ (a = b ∧ l.Sublist m) := by
  constructor
  · intro h
    cases h with
    | cons _ h => exact .inl h
    | cons_cons _ h => exact .inr ⟨rfl, h⟩
  · rintro (h | ⟨rfl, h⟩)
    · exact h.cons _
    · exact h.cons_cons _

theorem adv_sub (u w : ByteArray) : ∀ d i k, k + d = w.size → i ≤ u.size → (adv u w d i k = u.size ↔ ((bl u).drop i).Sublist ((bl w).drop k))
  | 0, i, k, hk, hi => by
    have hw : (bl w).drop k = [] := by rw [List.drop_eq_nil_iff, bl_len]; omega
    rw [hw]
    simp only [adv, List.sublist_nil, List.drop_eq_nil_iff, bl_len]
    omega
  | d + 1, i, k, hk, hi => by
    simp only [adv]
    by_cases h1 : i < u.size
    · rw [if_pos h1, bl_drop h1, bl_drop (show k < w.size by omega)]
      by_cases h2 : w.get! k = u.get! i
      · rw [if_pos h2, adv_sub u w d (i + 1) (k + 1) (by omega) (by omega), ← h2, List.cons_sublist_cons]
      · rw [if_neg h2, adv_sub u w d i (k + 1) (by omega) hi, bl_drop h1, cons_sub]
        constructor
        · intro h; exact .inl h
        · rintro (h | ⟨h, _⟩)
          · exact h
          · exact absurd h.symm h2
    · rw [if_neg h1]
      have hu : (bl u).drop i = [] := by rw [List.drop_eq_nil_iff, bl_len]; omega
      rw [hu]
      simp
      omega

theorem isP_iff (u w : ByteArray) : isP u w = true ↔ (bl u).Sublist (bl w) := by
  unfold isP
  rw [beq_iff_eq, adv_sub u w w.size 0 0 (by omega) (by omega)]
  simp
end Go.Proofs.Ytedfombojnfbiaa.Am24
namespace Go.Proofs.Ytedfombojnfbiaa.Am24
open Go Go.Proofs.Ytedfombojnfbiaa.Am

theorem withW_bits {ws : List Nat} {k l : Nat} (j : Nat) : ∀ (d : Nat) (ys : List Nat) (i : Nat), KOK ys → (∀ q, i ≤ q → q < i + d → k * q + l + 1 < 4736) →
    (bitW (withW ws k l d ys i) j = true ↔ bitW ys j = true ∨ ∃ q, i ≤ q ∧ q < i + d ∧ bitW ws q = true ∧ j = k * q + l + 1)
  | 0, ys, i, hy, hb => by
    simp only [withW]
    constructor
    · intro h; exact .inl h
    · rintro (h | ⟨q, h1, h2, _⟩)
      · exact h
      · omega
  | d + 1, ys, i, hy, hb => by
    simp only [withW]
    have hy' : KOK (if bitW ws i = true then addW ys (k * i + l + 1) else ys) := by
      split
      · exact hy.add _
      · exact hy
    rw [withW_bits j d _ (i + 1) hy' (fun q h1 h2 => hb q (by omega) (by omega))]
    by_cases hbi : bitW ws i = true
    · rw [if_pos hbi, bit_add hy (hb i (by omega) (by omega))]
      simp only [Bool.or_eq_true, decide_eq_true_eq]
      constructor
      · rintro ((h | h) | ⟨q, h1, h2, h3, h4⟩)
        · exact .inl h
        · exact .inr ⟨i, by omega, by omega, hbi, h⟩
        · exact .inr ⟨q, by omega, by omega, h3, h4⟩
      · rintro (h | ⟨q, h1, h2, h3, h4⟩)
        · exact .inl (.inl h)
        · by_cases e : q = i
          · subst e; exact .inl (.inr h4)
          · exact .inr ⟨q, by omega, by omega, h3, h4⟩
    · rw [if_neg hbi]
      constructor
      · rintro (h | ⟨q, h1, h2, h3, h4⟩)
        · exact .inl h
        · exact .inr ⟨q, by omega, by omega, h3, h4⟩
      · rintro (h | ⟨q, h1, h2, h3, h4⟩)
        · exact .inl h
        · by_cases e : q = i
          · subst e; exact absurd h3 hbi
          · exact .inr ⟨q, by omega, by omega, h3, h4⟩

theorem withK_bits {k n l : Nat} (hk : k ≤ 8) (hn : n ≤ 4) (hl : l < k) {ws : List Nat} (h : KOK ws) (j : Nat) :
    bitW (withK k n l ws) j = true ↔ bitW ws j = true ∨ ∃ q, q < sho k n ∧ bitW ws q = true ∧ j = k * q + l + 1 := by
  unfold withK
  rw [withW_bits j (sho k n) ws 0 h (fun q _ hq => by
    have hr := sho_room hk hn
    have := Nat.mul_le_mul (Nat.le_refl k) (show q + 1 ≤ sho k n by omega)
    rw [Nat.mul_add] at this
    omega)]
  simp

/-- The letters of the word of a number, as bytes. -/
def wb (k i : Nat) : List UInt8 := (wl k i).map fun n => UInt8.ofNat n
theorem bl_txt (k i : Nat) : bl (txt k i) = wb k i := rfl
theorem wb_zero (k : Nat) : wb k 0 = [] := rfl
theorem wb_step {k i c : Nat} (hc : c < k) : wb k (k * i + c + 1) = wb k i ++ [UInt8.ofNat (97 + c)] := by unfold wb; rw [wl_step hc]; simp

theorem snoc_sub {a b : UInt8} {l m : List UInt8} : (l ++ [a]).Sublist (m ++ [b]) ↔ (l ++ [a]).Sublist m ∨ (a = b ∧ l.Sublist m) := by
  rw [← List.reverse_sublist, List.reverse_append, List.reverse_append]
  simp only [List.reverse_cons, List.reverse_nil, List.nil_append, List.singleton_append]
  rw [cons_sub, List.reverse_sublist]
  rw [show a :: l.reverse = (l ++ [a]).reverse by simp, List.reverse_sublist]

theorem u8_inj {a b : Nat} (ha : a < 256) (hb : b < 256) : UInt8.ofNat a = UInt8.ofNat b ↔ a = b := by
  constructor
  · intro h
    have := congrArg UInt8.toNat h
    simp only [UInt8.toNat_ofNat'] at this
    omega
  · intro h; rw [h]

theorem kOf_bits {k n : Nat} (hk1 : 1 ≤ k) (hk : k ≤ 8) (hn : n ≤ 4) {w : ByteArray} (hw : Wd k w) : ∀ (d p : Nat) (ws : List Nat), p + d = w.size → KOK ws →
    (∀ j, j < sho k (n + 1) → (bitW ws j = true ↔ (wb k j).Sublist ((bl w).take p))) → ∀ j, j < sho k (n + 1) → (bitW (kOf k n w d p ws) j = true ↔ (wb k j).Sublist (bl w))
  | 0, p, ws, hp, h, hb, j, hj => by
    simp only [kOf]
    rw [hb j hj, List.take_of_length_le (by rw [bl_len]; omega)]
  | d + 1, p, ws, hp, h, hb, j, hj => by
    simp only [kOf]
    have hc := hw p (by omega)
    have hlt : (w.get! p).toNat < 256 := (w.get! p).toNat_lt
    have hl : ltr w p < k := by unfold ltr; omega
    have hletter : w.get! p = UInt8.ofNat (97 + ltr w p) := by
      apply UInt8.toNat_inj.1
      simp only [UInt8.toNat_ofNat']
      unfold ltr
      omega
    refine kOf_bits hk1 hk hn hw d (p + 1) _ (by omega) (withK_ok h) (fun i hi => ?_) j hj
    have htake : (bl w).take (p + 1) = (bl w).take p ++ [w.get! p] := by
      rw [List.take_add_one, bl_get (by omega)]
      rfl
    rw [withK_bits hk hn hl h, htake]
    by_cases h0 : i = 0
    · subst h0
      rw [wb_zero, hb 0 hi, wb_zero]
      simp
    · obtain ⟨q, c, hcq, he, hq⟩ := pred_of hk1 (Nat.pos_of_ne_zero h0)
      have hqs : q < sho k n := by
        rw [sho_succ] at hi
        cases Nat.lt_or_ge q (sho k n) with
        | inl h => exact h
        | inr hge =>
          have := Nat.mul_le_mul (Nat.le_refl k) hge
          omega
      have hqs' : q < sho k (n + 1) := Nat.lt_of_lt_of_le hqs (sho_mono (by omega))
      have hbi := hb i hi
      rw [hbi]
      subst he
      rw [wb_step hcq, snoc_sub, hletter, u8_inj (by omega) (by omega)]
      constructor
      · rintro (hh | ⟨r, hr1, hr2, hr3⟩)
        · exact .inl hh
        · have hrq : r = q ∧ ltr w p = c := by
            have e1 : (k * q + c) % k = c := by rw [Nat.mul_add_mod]; exact Nat.mod_eq_of_lt hcq
            have e2 : (k * r + ltr w p) % k = ltr w p := by rw [Nat.mul_add_mod]; exact Nat.mod_eq_of_lt hl
            have e3 : (k * q + c) / k = q := by rw [Nat.mul_add_div (by omega), Nat.div_eq_of_lt hcq]; rfl
            have e4 : (k * r + ltr w p) / k = r := by rw [Nat.mul_add_div (by omega), Nat.div_eq_of_lt hl]; rfl
            have e5 : k * q + c = k * r + ltr w p := by omega
            rw [e5] at e1 e3
            exact ⟨by rw [← e4, e3], by rw [← e2, e1]⟩
          obtain ⟨rfl, hcl⟩ := hrq
          exact .inr ⟨by omega, (hb r hqs').1 hr2⟩
      · rintro (hh | ⟨hc', hs⟩)
        · exact .inl hh
        · exact .inr ⟨q, hqs, (hb q hqs').2 hs, by omega⟩

/-- A bit is set just where its word is a piece. -/
theorem kind_bits {k n : Nat} (hk1 : 1 ≤ k) (hk : k ≤ 8) (hn : n ≤ 4) {w : ByteArray} (hw : Wd k w) {j : Nat} (hj : j < sho k (n + 1)) : bitW (kindOf k n w) j = isP (txt k j) w := by
  rw [Bool.eq_iff_iff, isP_iff, bl_txt]
  refine kOf_bits hk1 hk hn hw w.size 0 firstW (by omega) firstOK (fun i hi => ?_) j hj
  rw [List.take_zero, List.sublist_nil]
  unfold firstW
  rw [bit_add zeroOK (by omega)]
  have hz : bitW (List.replicate 74 0) i = false := by
    unfold bitW
    have : (List.replicate 74 0).getD (i / 64) 0 = 0 := by
      rw [List.getD_eq_getElem?_getD, List.getElem?_replicate]
      split <;> rfl
    rw [this]
    simp
  rw [hz]
  simp only [Bool.false_or, decide_eq_true_eq]
  constructor
  · intro h; subst h; rfl
  · intro h
    cases Nat.eq_zero_or_pos i with
    | inl h0 => exact h0
    | inr hpos =>
      obtain ⟨q, c, hcq, he, _⟩ := pred_of hk1 hpos
      rw [he, wb_step hcq] at h
      simp at h
end Go.Proofs.Ytedfombojnfbiaa.Am24
set_option linter.unusedVariables false
open Go Go.Proofs.Ytedfombojnfbiaa.Am
namespace Go.Proofs.Ytedfombojnfbiaa.Am24
theorem f21_F_0 (x0 : Int) (x1 : Int) (x2 : ByteArray) (x3 : ByteArray) (H : AHeap) (prot : Nat) (x20 : Int) (h1 : callInf cfg 26 [Value.int IntKind.i64 x0, Value.int IntKind.i64 x1, Value.slice (some { block := List.length H, off := 0, spot := some (2 * 1) }) 2 2] (List.length H) (H ++ [AObj.cells [Value.string x2, Value.string x3] 9 [Value.string x2, Value.string x3].length OMode.row]) = some (Value.int IntKind.i64 x20, H ++ [AObj.cells [Value.string x2, Value.string x3] 9 [Value.string x2, Value.string x3].length OMode.row])) (h2 : (x20 != 0) = true) : callInf cfg 21 [.int .i64 x0, .int .i64 x1, .string x2, .string x3] prot H = some (Value.tuple { toList := [Value.string { data := { toList := [] } }, Value.bool false, Value.int IntKind.i64 x20] }, H) :=
  fn_of a21 [.e, .v (.int .i64 x20), .e, .b true] (fun e => (callInf cfg 26 [Value.int IntKind.i64 x0, Value.int IntKind.i64 x1, Value.slice (some { block := List.length H, off := 0, spot := some (2 * 1) }) 2 2] (List.length H) (H ++ [AObj.cells [Value.string x2, Value.string x3] 9 [Value.string x2, Value.string x3].length OMode.row]) = some (Value.int IntKind.i64 x20, H ++ [AObj.cells [Value.string x2, Value.string x3] 9 [Value.string x2, Value.string x3].length OMode.row])) ∧ ((x20 != 0) = true) ∧ e) (by kernel_rfl) ⟨h1, h2, rfl⟩ rfl
theorem f21_F_1 (x0 : Int) (x1 : Int) (x2 : ByteArray) (x3 : ByteArray) (H : AHeap) (prot : Nat) (x20 : Int) (x27 : Array Value) (x31 : Array Value) (x12p : Nat) (x12o : Nat) (x12l : Nat) (H1 : AHeap) (x13p : Nat) (x13o : Nat) (x13l : Nat) (H2 : AHeap) (H3 : AHeap) (H4 : AHeap) (x35 : Int) (z8 : Value) (z9 : Value) (z10 : Value) (H5 : AHeap) (h1 : callInf cfg 26 [Value.int IntKind.i64 x0, Value.int IntKind.i64 x1, Value.slice (some { block := List.length H, off := 0, spot := some (2 * 1) }) 2 2] (List.length H) (H ++ [AObj.cells [Value.string x2, Value.string x3] 9 [Value.string x2, Value.string x3].length OMode.row]) = some (Value.int IntKind.i64 x20, H ++ [AObj.cells [Value.string x2, Value.string x3] 9 [Value.string x2, Value.string x3].length OMode.row])) (h2 : (x20 != 0) = false) (h3 : callInf cfg 30 [Value.int IntKind.i64 x0, Value.int IntKind.i64 x1, Value.string x2] (List.length H) (H ++ [AObj.cells [Value.string x2, Value.string x3] 9 [Value.string x2, Value.string x3].length OMode.row]) = some (Value.agg x27, H ++ [AObj.cells [Value.string x2, Value.string x3] 9 [Value.string x2, Value.string x3].length OMode.row])) (h4 : callInf cfg 30 [Value.int IntKind.i64 x0, Value.int IntKind.i64 x1, Value.string x3] (List.length H) (H ++ [AObj.cells [Value.string x2, Value.string x3] 9 [Value.string x2, Value.string x3].length OMode.row]) = some (Value.agg x31, H ++ [AObj.cells [Value.string x2, Value.string x3] 9 [Value.string x2, Value.string x3].length OMode.row])) (h5 : aalloc cfg.P 65 (H ++ [AObj.cells [Value.string x2, Value.string x3] 9 [Value.string x2, Value.string x3].length OMode.row]) = some (Value.pointer (some { block := x12p, off := x12o, spot := some x12l }), H1)) (h6 : aalloc cfg.P 65 H1 = some (Value.pointer (some { block := x13p, off := x13o, spot := some x13l }), H2)) (h7 : x27.toList.length = 74) (h8 : setCells H2 (List.length H) x12p x12l x12o x27.toList = some H3) (h9 : x31.toList.length = 74) (h10 : setCells H3 (List.length H) x13p x13l x13o x31.toList = some H4) (h11 : Fit IntKind.i64 (x1 + 1)) (h12 : callInf cfg 32 [Value.int IntKind.i64 x0, Value.int IntKind.i64 (x1 + 1)] (List.length H) H4 = some (Value.int IntKind.i64 x35, H4)) (h13 : lpInf (lpOf cfg a21 0 prot H) ([Value.int IntKind.i64 x0, Value.pointer (some { block := x12p, off := x12o, spot := some x12l }), Value.pointer (some { block := x13p, off := x13o, spot := some x13l }), Value.int IntKind.i64 x35, Value.int IntKind.i64 0], H4) = some (Ex.exit 0, [z8, z9, z10], H5)) : callInf cfg 21 [.int .i64 x0, .int .i64 x1, .string x2, .string x3] prot H = some (Value.tuple { toList := [Value.string { data := { toList := [] } }, Value.bool false, Value.int IntKind.i64 0] }, H) :=
  fn_of a21 [.e, .v (.int .i64 x20), .e, .b false, .v (.agg x27), .v (.agg x31), .r (.pointer (some ⟨x12p, x12o, some x12l⟩)) H1, .r (.pointer (some ⟨x13p, x13o, some x13l⟩)) H2, .h H3, .h H4, .e, .v (.int .i64 x35), .lo (.exit 0, [z8, z9, z10], H5)] (fun e => (callInf cfg 26 [Value.int IntKind.i64 x0, Value.int IntKind.i64 x1, Value.slice (some { block := List.length H, off := 0, spot := some (2 * 1) }) 2 2] (List.length H) (H ++ [AObj.cells [Value.string x2, Value.string x3] 9 [Value.string x2, Value.string x3].length OMode.row]) = some (Value.int IntKind.i64 x20, H ++ [AObj.cells [Value.string x2, Value.string x3] 9 [Value.string x2, Value.string x3].length OMode.row])) ∧ ((x20 != 0) = false) ∧ (callInf cfg 30 [Value.int IntKind.i64 x0, Value.int IntKind.i64 x1, Value.string x2] (List.length H) (H ++ [AObj.cells [Value.string x2, Value.string x3] 9 [Value.string x2, Value.string x3].length OMode.row]) = some (Value.agg x27, H ++ [AObj.cells [Value.string x2, Value.string x3] 9 [Value.string x2, Value.string x3].length OMode.row])) ∧ (callInf cfg 30 [Value.int IntKind.i64 x0, Value.int IntKind.i64 x1, Value.string x3] (List.length H) (H ++ [AObj.cells [Value.string x2, Value.string x3] 9 [Value.string x2, Value.string x3].length OMode.row]) = some (Value.agg x31, H ++ [AObj.cells [Value.string x2, Value.string x3] 9 [Value.string x2, Value.string x3].length OMode.row])) ∧ (aalloc cfg.P 65 (H ++ [AObj.cells [Value.string x2, Value.string x3] 9 [Value.string x2, Value.string x3].length OMode.row]) = some (Value.pointer (some { block := x12p, off := x12o, spot := some x12l }), H1)) ∧ (aalloc cfg.P 65 H1 = some (Value.pointer (some { block := x13p, off := x13o, spot := some x13l }), H2)) ∧ (x27.toList.length = 74) ∧ (setCells H2 (List.length H) x12p x12l x12o x27.toList = some H3) ∧ (x31.toList.length = 74) ∧ (setCells H3 (List.length H) x13p x13l x13o x31.toList = some H4) ∧ (Fit IntKind.i64 (x1 + 1)) ∧ (callInf cfg 32 [Value.int IntKind.i64 x0, Value.int IntKind.i64 (x1 + 1)] (List.length H) H4 = some (Value.int IntKind.i64 x35, H4)) ∧ (lpInf (lpOf cfg a21 0 prot H) ([Value.int IntKind.i64 x0, Value.pointer (some { block := x12p, off := x12o, spot := some x12l }), Value.pointer (some { block := x13p, off := x13o, spot := some x13l }), Value.int IntKind.i64 x35, Value.int IntKind.i64 0], H4) = some (Ex.exit 0, [z8, z9, z10], H5)) ∧ e) (by kernel_rfl) ⟨h1, h2, h3, h4, h5, h6, h7, h8, h9, h10, h11, h12, h13, rfl⟩ rfl
theorem f21_F_2 (x0 : Int) (x1 : Int) (x2 : ByteArray) (x3 : ByteArray) (H : AHeap) (prot : Nat) (x20 : Int) (x27 : Array Value) (x31 : Array Value) (x12p : Nat) (x12o : Nat) (x12l : Nat) (H1 : AHeap) (x13p : Nat) (x13o : Nat) (x13l : Nat) (H2 : AHeap) (H3 : AHeap) (H4 : AHeap) (x35 : Int) (z8 : ByteArray) (z9 : Bool) (z10 : Int) (H5 : AHeap) (h1 : callInf cfg 26 [Value.int IntKind.i64 x0, Value.int IntKind.i64 x1, Value.slice (some { block := List.length H, off := 0, spot := some (2 * 1) }) 2 2] (List.length H) (H ++ [AObj.cells [Value.string x2, Value.string x3] 9 [Value.string x2, Value.string x3].length OMode.row]) = some (Value.int IntKind.i64 x20, H ++ [AObj.cells [Value.string x2, Value.string x3] 9 [Value.string x2, Value.string x3].length OMode.row])) (h2 : (x20 != 0) = false) (h3 : callInf cfg 30 [Value.int IntKind.i64 x0, Value.int IntKind.i64 x1, Value.string x2] (List.length H) (H ++ [AObj.cells [Value.string x2, Value.string x3] 9 [Value.string x2, Value.string x3].length OMode.row]) = some (Value.agg x27, H ++ [AObj.cells [Value.string x2, Value.string x3] 9 [Value.string x2, Value.string x3].length OMode.row])) (h4 : callInf cfg 30 [Value.int IntKind.i64 x0, Value.int IntKind.i64 x1, Value.string x3] (List.length H) (H ++ [AObj.cells [Value.string x2, Value.string x3] 9 [Value.string x2, Value.string x3].length OMode.row]) = some (Value.agg x31, H ++ [AObj.cells [Value.string x2, Value.string x3] 9 [Value.string x2, Value.string x3].length OMode.row])) (h5 : aalloc cfg.P 65 (H ++ [AObj.cells [Value.string x2, Value.string x3] 9 [Value.string x2, Value.string x3].length OMode.row]) = some (Value.pointer (some { block := x12p, off := x12o, spot := some x12l }), H1)) (h6 : aalloc cfg.P 65 H1 = some (Value.pointer (some { block := x13p, off := x13o, spot := some x13l }), H2)) (h7 : x27.toList.length = 74) (h8 : setCells H2 (List.length H) x12p x12l x12o x27.toList = some H3) (h9 : x31.toList.length = 74) (h10 : setCells H3 (List.length H) x13p x13l x13o x31.toList = some H4) (h11 : Fit IntKind.i64 (x1 + 1)) (h12 : callInf cfg 32 [Value.int IntKind.i64 x0, Value.int IntKind.i64 (x1 + 1)] (List.length H) H4 = some (Value.int IntKind.i64 x35, H4)) (h13 : lpInf (lpOf cfg a21 0 prot H) ([Value.int IntKind.i64 x0, Value.pointer (some { block := x12p, off := x12o, spot := some x12l }), Value.pointer (some { block := x13p, off := x13o, spot := some x13l }), Value.int IntKind.i64 x35, Value.int IntKind.i64 0], H4) = some (Ex.ret, [Value.string z8, Value.bool z9, Value.int IntKind.i64 z10], H5)) : callInf cfg 21 [.int .i64 x0, .int .i64 x1, .string x2, .string x3] prot H = some (Value.tuple { toList := [Value.string z8, Value.bool z9, Value.int IntKind.i64 z10] }, H) :=
  fn_of a21 [.e, .v (.int .i64 x20), .e, .b false, .v (.agg x27), .v (.agg x31), .r (.pointer (some ⟨x12p, x12o, some x12l⟩)) H1, .r (.pointer (some ⟨x13p, x13o, some x13l⟩)) H2, .h H3, .h H4, .e, .v (.int .i64 x35), .lo (.ret, [.string z8, .bool z9, .int .i64 z10], H5)] (fun e => (callInf cfg 26 [Value.int IntKind.i64 x0, Value.int IntKind.i64 x1, Value.slice (some { block := List.length H, off := 0, spot := some (2 * 1) }) 2 2] (List.length H) (H ++ [AObj.cells [Value.string x2, Value.string x3] 9 [Value.string x2, Value.string x3].length OMode.row]) = some (Value.int IntKind.i64 x20, H ++ [AObj.cells [Value.string x2, Value.string x3] 9 [Value.string x2, Value.string x3].length OMode.row])) ∧ ((x20 != 0) = false) ∧ (callInf cfg 30 [Value.int IntKind.i64 x0, Value.int IntKind.i64 x1, Value.string x2] (List.length H) (H ++ [AObj.cells [Value.string x2, Value.string x3] 9 [Value.string x2, Value.string x3].length OMode.row]) = some (Value.agg x27, H ++ [AObj.cells [Value.string x2, Value.string x3] 9 [Value.string x2, Value.string x3].length OMode.row])) ∧ (callInf cfg 30 [Value.int IntKind.i64 x0, Value.int IntKind.i64 x1, Value.string x3] (List.length H) (H ++ [AObj.cells [Value.string x2, Value.string x3] 9 [Value.string x2, Value.string x3].length OMode.row]) = some (Value.agg x31, H ++ [AObj.cells [Value.string x2, Value.string x3] 9 [Value.string x2, Value.string x3].length OMode.row])) ∧ (aalloc cfg.P 65 (H ++ [AObj.cells [Value.string x2, Value.string x3] 9 [Value.string x2, Value.string x3].length OMode.row]) = some (Value.pointer (some { block := x12p, off := x12o, spot := some x12l }), H1)) ∧ (aalloc cfg.P 65 H1 = some (Value.pointer (some { block := x13p, off := x13o, spot := some x13l }), H2)) ∧ (x27.toList.length = 74) ∧ (setCells H2 (List.length H) x12p x12l x12o x27.toList = some H3) ∧ (x31.toList.length = 74) ∧ (setCells H3 (List.length H) x13p x13l x13o x31.toList = some H4) ∧ (Fit IntKind.i64 (x1 + 1)) ∧ (callInf cfg 32 [Value.int IntKind.i64 x0, Value.int IntKind.i64 (x1 + 1)] (List.length H) H4 = some (Value.int IntKind.i64 x35, H4)) ∧ (lpInf (lpOf cfg a21 0 prot H) ([Value.int IntKind.i64 x0, Value.pointer (some { block := x12p, off := x12o, spot := some x12l }), Value.pointer (some { block := x13p, off := x13o, spot := some x13l }), Value.int IntKind.i64 x35, Value.int IntKind.i64 0], H4) = some (Ex.ret, [Value.string z8, Value.bool z9, Value.int IntKind.i64 z10], H5)) ∧ e) (by kernel_rfl) ⟨h1, h2, h3, h4, h5, h6, h7, h8, h9, h10, h11, h12, h13, rfl⟩ rfl
theorem f21_L0_0 (x0 : Int) (x12p : Nat) (x12o : Nat) (x12l : Nat) (x13p : Nat) (x13o : Nat) (x13l : Nat) (x35 : Int) (x36 : Int) (H0 : AHeap) (prot : Nat) (H : AHeap) (x40 : Bool) (x42 : Bool) (x46 : ByteArray) (h1 : x36 < x35) (h2 : callInf cfg 33 [Value.pointer (some { block := x12p, off := x12o, spot := some x12l }), Value.int IntKind.i64 x36] (List.length H0) H = some (Value.bool x40, H)) (h3 : callInf cfg 33 [Value.pointer (some { block := x13p, off := x13o, spot := some x13l }), Value.int IntKind.i64 x36] (List.length H0) H = some (Value.bool x42, H)) (h4 : (!x40 == x42) = true) (h5 : callInf cfg 34 [Value.int IntKind.i64 x0, Value.int IntKind.i64 x36] (List.length H0) H = some (Value.string x46, H)) : lpOf cfg a21 0 prot H0 ([.int .i64 x0, .pointer (some ⟨x12p, x12o, some x12l⟩), .pointer (some ⟨x13p, x13o, some x13l⟩), .int .i64 x35, .int .i64 x36], H) = some (Sum.inr (Ex.ret, [Value.string x46, Value.bool true, Value.int IntKind.i64 0], H)) :=
  lp_of [.e, .b true, .v (.bool x40), .v (.bool x42), .e, .b true, .v (.string x46)] (fun e => (decide (x36 < x35) = true) ∧ (callInf cfg 33 [Value.pointer (some { block := x12p, off := x12o, spot := some x12l }), Value.int IntKind.i64 x36] (List.length H0) H = some (Value.bool x40, H)) ∧ (callInf cfg 33 [Value.pointer (some { block := x13p, off := x13o, spot := some x13l }), Value.int IntKind.i64 x36] (List.length H0) H = some (Value.bool x42, H)) ∧ ((!x40 == x42) = true) ∧ (callInf cfg 34 [Value.int IntKind.i64 x0, Value.int IntKind.i64 x36] (List.length H0) H = some (Value.string x46, H)) ∧ e) (by kernel_rfl) ⟨decide_eq_true h1, h2, h3, h4, h5, rfl⟩
theorem f21_L0_1 (x0 : Int) (x12p : Nat) (x12o : Nat) (x12l : Nat) (x13p : Nat) (x13o : Nat) (x13l : Nat) (x35 : Int) (x36 : Int) (H0 : AHeap) (prot : Nat) (H : AHeap) (x40 : Bool) (x42 : Bool) (h1 : x36 < x35) (h2 : callInf cfg 33 [Value.pointer (some { block := x12p, off := x12o, spot := some x12l }), Value.int IntKind.i64 x36] (List.length H0) H = some (Value.bool x40, H)) (h3 : callInf cfg 33 [Value.pointer (some { block := x13p, off := x13o, spot := some x13l }), Value.int IntKind.i64 x36] (List.length H0) H = some (Value.bool x42, H)) (h4 : (!x40 == x42) = false) (h5 : Fit IntKind.i64 (x36 + 1)) : lpOf cfg a21 0 prot H0 ([.int .i64 x0, .pointer (some ⟨x12p, x12o, some x12l⟩), .pointer (some ⟨x13p, x13o, some x13l⟩), .int .i64 x35, .int .i64 x36], H) = some (Sum.inl ([Value.int IntKind.i64 x0, Value.pointer (some { block := x12p, off := x12o, spot := some x12l }), Value.pointer (some { block := x13p, off := x13o, spot := some x13l }), Value.int IntKind.i64 x35, Value.int IntKind.i64 (x36 + 1)], H)) :=
  lp_of [.e, .b true, .v (.bool x40), .v (.bool x42), .e, .b false, .e] (fun e => (decide (x36 < x35) = true) ∧ (callInf cfg 33 [Value.pointer (some { block := x12p, off := x12o, spot := some x12l }), Value.int IntKind.i64 x36] (List.length H0) H = some (Value.bool x40, H)) ∧ (callInf cfg 33 [Value.pointer (some { block := x13p, off := x13o, spot := some x13l }), Value.int IntKind.i64 x36] (List.length H0) H = some (Value.bool x42, H)) ∧ ((!x40 == x42) = false) ∧ (Fit IntKind.i64 (x36 + 1)) ∧ e) (by kernel_rfl) ⟨decide_eq_true h1, h2, h3, h4, h5, rfl⟩
theorem f21_L0_2 (x0 : Int) (x12p : Nat) (x12o : Nat) (x12l : Nat) (x13p : Nat) (x13o : Nat) (x13l : Nat) (x35 : Int) (x36 : Int) (H0 : AHeap) (prot : Nat) (H : AHeap) (h1 : ¬(x36 < x35)) : lpOf cfg a21 0 prot H0 ([.int .i64 x0, .pointer (some ⟨x12p, x12o, some x12l⟩), .pointer (some ⟨x13p, x13o, some x13l⟩), .int .i64 x35, .int .i64 x36], H) = some (Sum.inr (Ex.exit 0, [Value.tuple { toList := [] }, Value.tuple { toList := [] }, Value.tuple { toList := [] }], H)) :=
  lp_of [.e, .b false] (fun e => (decide (x36 < x35) = false) ∧ e) (by kernel_rfl) ⟨decide_eq_false h1, rfl⟩
end Go.Proofs.Ytedfombojnfbiaa.Am24
set_option linter.unusedVariables false
open Go Go.Proofs.Ytedfombojnfbiaa.Am
namespace Go.Proofs.Ytedfombojnfbiaa.Am24
theorem f22_F_0 (x0 : Int) (x1 : Int) (x2 : ByteArray) (x3 : ByteArray) (H : AHeap) (prot : Nat) (x18 : Int) (h1 : callInf cfg 28 [Value.int IntKind.i64 x0, Value.int IntKind.i64 x1, Value.string x2, Value.string x3] (List.length H) H = some (Value.int IntKind.i64 x18, H)) (h2 : (x18 != 0) = true) : callInf cfg 22 [.int .i64 x0, .int .i64 x1, .string x2, .string x3] prot H = some (Value.tuple { toList := [Value.string { data := { toList := [] } }, Value.bool false, Value.int IntKind.i64 x18] }, H) :=
  fn_of a22 [.v (.int .i64 x18), .e, .b true] (fun e => (callInf cfg 28 [Value.int IntKind.i64 x0, Value.int IntKind.i64 x1, Value.string x2, Value.string x3] (List.length H) H = some (Value.int IntKind.i64 x18, H)) ∧ ((x18 != 0) = true) ∧ e) (by kernel_rfl) ⟨h1, h2, rfl⟩ rfl
theorem f22_F_1 (x0 : Int) (x1 : Int) (x2 : ByteArray) (x3 : ByteArray) (H : AHeap) (prot : Nat) (x18 : Int) (x24a : Option Addr) (x24n : Nat) (x24c : Nat) (H1 : AHeap) (z8 : Value) (z9 : Value) (z10 : Value) (H2 : AHeap) (h1 : callInf cfg 28 [Value.int IntKind.i64 x0, Value.int IntKind.i64 x1, Value.string x2, Value.string x3] (List.length H) H = some (Value.int IntKind.i64 x18, H)) (h2 : (x18 != 0) = false) (h3 : callInf cfg 35 [Value.int IntKind.i64 x0, Value.int IntKind.i64 x1] (List.length H) H = some (Value.slice x24a x24n x24c, H1)) (h4 : lpInf (lpOf cfg a22 0 prot H) ([Value.string x2, Value.string x3, Value.slice x24a x24n x24c, Value.int IntKind.i64 0], H1) = some (Ex.exit 0, [z8, z9, z10], H2)) : callInf cfg 22 [.int .i64 x0, .int .i64 x1, .string x2, .string x3] prot H = some (Value.tuple { toList := [Value.string { data := { toList := [] } }, Value.bool false, Value.int IntKind.i64 0] }, H) :=
  fn_of a22 [.v (.int .i64 x18), .e, .b false, .r (.slice x24a x24n x24c) H1, .lo (.exit 0, [z8, z9, z10], H2)] (fun e => (callInf cfg 28 [Value.int IntKind.i64 x0, Value.int IntKind.i64 x1, Value.string x2, Value.string x3] (List.length H) H = some (Value.int IntKind.i64 x18, H)) ∧ ((x18 != 0) = false) ∧ (callInf cfg 35 [Value.int IntKind.i64 x0, Value.int IntKind.i64 x1] (List.length H) H = some (Value.slice x24a x24n x24c, H1)) ∧ (lpInf (lpOf cfg a22 0 prot H) ([Value.string x2, Value.string x3, Value.slice x24a x24n x24c, Value.int IntKind.i64 0], H1) = some (Ex.exit 0, [z8, z9, z10], H2)) ∧ e) (by kernel_rfl) ⟨h1, h2, h3, h4, rfl⟩ rfl
theorem f22_F_2 (x0 : Int) (x1 : Int) (x2 : ByteArray) (x3 : ByteArray) (H : AHeap) (prot : Nat) (x18 : Int) (x24a : Option Addr) (x24n : Nat) (x24c : Nat) (H1 : AHeap) (z8 : ByteArray) (z9 : Bool) (z10 : Int) (H2 : AHeap) (h1 : callInf cfg 28 [Value.int IntKind.i64 x0, Value.int IntKind.i64 x1, Value.string x2, Value.string x3] (List.length H) H = some (Value.int IntKind.i64 x18, H)) (h2 : (x18 != 0) = false) (h3 : callInf cfg 35 [Value.int IntKind.i64 x0, Value.int IntKind.i64 x1] (List.length H) H = some (Value.slice x24a x24n x24c, H1)) (h4 : lpInf (lpOf cfg a22 0 prot H) ([Value.string x2, Value.string x3, Value.slice x24a x24n x24c, Value.int IntKind.i64 0], H1) = some (Ex.ret, [Value.string z8, Value.bool z9, Value.int IntKind.i64 z10], H2)) : callInf cfg 22 [.int .i64 x0, .int .i64 x1, .string x2, .string x3] prot H = some (Value.tuple { toList := [Value.string z8, Value.bool z9, Value.int IntKind.i64 z10] }, H) :=
  fn_of a22 [.v (.int .i64 x18), .e, .b false, .r (.slice x24a x24n x24c) H1, .lo (.ret, [.string z8, .bool z9, .int .i64 z10], H2)] (fun e => (callInf cfg 28 [Value.int IntKind.i64 x0, Value.int IntKind.i64 x1, Value.string x2, Value.string x3] (List.length H) H = some (Value.int IntKind.i64 x18, H)) ∧ ((x18 != 0) = false) ∧ (callInf cfg 35 [Value.int IntKind.i64 x0, Value.int IntKind.i64 x1] (List.length H) H = some (Value.slice x24a x24n x24c, H1)) ∧ (lpInf (lpOf cfg a22 0 prot H) ([Value.string x2, Value.string x3, Value.slice x24a x24n x24c, Value.int IntKind.i64 0], H1) = some (Ex.ret, [Value.string z8, Value.bool z9, Value.int IntKind.i64 z10], H2)) ∧ e) (by kernel_rfl) ⟨h1, h2, h3, h4, rfl⟩ rfl
theorem f22_L0_0 (x2 : ByteArray) (x3 : ByteArray) (x12a : Option Addr) (x12n : Nat) (x12c : Nat) (x13 : Int) (H0 : AHeap) (prot : Nat) (H : AHeap) (x33p : Nat) (x33o : Nat) (x33l : Nat) (x34 : ByteArray) (x36 : Bool) (x39p : Nat) (x39o : Nat) (x39l : Nat) (x40 : ByteArray) (x42 : Bool) (x46p : Nat) (x46o : Nat) (x46l : Nat) (x47 : ByteArray) (h1 : x13 < (↑x12n : Int)) (h2 : aindexAddr cfg.P 22 (Value.slice x12a x12n x12c) (Value.int IntKind.i64 x13) = some (Value.pointer (some { block := x33p, off := x33o, spot := some x33l }))) (h3 : getCells H x33p x33l x33o 1 = some [Value.string x34]) (h4 : callInf cfg 24 [Value.string x34, Value.string x2] (List.length H0) H = some (Value.bool x36, H)) (h5 : aindexAddr cfg.P 22 (Value.slice x12a x12n x12c) (Value.int IntKind.i64 x13) = some (Value.pointer (some { block := x39p, off := x39o, spot := some x39l }))) (h6 : getCells H x39p x39l x39o 1 = some [Value.string x40]) (h7 : callInf cfg 24 [Value.string x40, Value.string x3] (List.length H0) H = some (Value.bool x42, H)) (h8 : (!x36 == x42) = true) (h9 : aindexAddr cfg.P 22 (Value.slice x12a x12n x12c) (Value.int IntKind.i64 x13) = some (Value.pointer (some { block := x46p, off := x46o, spot := some x46l }))) (h10 : getCells H x46p x46l x46o 1 = some [Value.string x47]) : lpOf cfg a22 0 prot H0 ([.string x2, .string x3, .slice x12a x12n x12c, .int .i64 x13], H) = some (Sum.inr (Ex.ret, [Value.string x47, Value.bool true, Value.int IntKind.i64 0], H)) :=
  lp_of [.e, .e, .b true, .v (.pointer (some ⟨x33p, x33o, some x33l⟩)), .v (.string x34), .v (.bool x36), .v (.pointer (some ⟨x39p, x39o, some x39l⟩)), .v (.string x40), .v (.bool x42), .e, .b true, .v (.pointer (some ⟨x46p, x46o, some x46l⟩)), .v (.string x47)] (fun e => (decide (x13 < (↑x12n : Int)) = true) ∧ (aindexAddr cfg.P 22 (Value.slice x12a x12n x12c) (Value.int IntKind.i64 x13) = some (Value.pointer (some { block := x33p, off := x33o, spot := some x33l }))) ∧ (getCells H x33p x33l x33o 1 = some [Value.string x34]) ∧ (callInf cfg 24 [Value.string x34, Value.string x2] (List.length H0) H = some (Value.bool x36, H)) ∧ (aindexAddr cfg.P 22 (Value.slice x12a x12n x12c) (Value.int IntKind.i64 x13) = some (Value.pointer (some { block := x39p, off := x39o, spot := some x39l }))) ∧ (getCells H x39p x39l x39o 1 = some [Value.string x40]) ∧ (callInf cfg 24 [Value.string x40, Value.string x3] (List.length H0) H = some (Value.bool x42, H)) ∧ ((!x36 == x42) = true) ∧ (aindexAddr cfg.P 22 (Value.slice x12a x12n x12c) (Value.int IntKind.i64 x13) = some (Value.pointer (some { block := x46p, off := x46o, spot := some x46l }))) ∧ (getCells H x46p x46l x46o 1 = some [Value.string x47]) ∧ e) (by kernel_rfl) ⟨decide_eq_true h1, h2, h3, h4, h5, h6, h7, h8, h9, h10, rfl⟩
theorem f22_L0_1 (x2 : ByteArray) (x3 : ByteArray) (x12a : Option Addr) (x12n : Nat) (x12c : Nat) (x13 : Int) (H0 : AHeap) (prot : Nat) (H : AHeap) (x33p : Nat) (x33o : Nat) (x33l : Nat) (x34 : ByteArray) (x36 : Bool) (x39p : Nat) (x39o : Nat) (x39l : Nat) (x40 : ByteArray) (x42 : Bool) (h1 : x13 < (↑x12n : Int)) (h2 : aindexAddr cfg.P 22 (Value.slice x12a x12n x12c) (Value.int IntKind.i64 x13) = some (Value.pointer (some { block := x33p, off := x33o, spot := some x33l }))) (h3 : getCells H x33p x33l x33o 1 = some [Value.string x34]) (h4 : callInf cfg 24 [Value.string x34, Value.string x2] (List.length H0) H = some (Value.bool x36, H)) (h5 : aindexAddr cfg.P 22 (Value.slice x12a x12n x12c) (Value.int IntKind.i64 x13) = some (Value.pointer (some { block := x39p, off := x39o, spot := some x39l }))) (h6 : getCells H x39p x39l x39o 1 = some [Value.string x40]) (h7 : callInf cfg 24 [Value.string x40, Value.string x3] (List.length H0) H = some (Value.bool x42, H)) (h8 : (!x36 == x42) = false) (h9 : Fit IntKind.i64 (x13 + 1)) : lpOf cfg a22 0 prot H0 ([.string x2, .string x3, .slice x12a x12n x12c, .int .i64 x13], H) = some (Sum.inl ([Value.string x2, Value.string x3, Value.slice x12a x12n x12c, Value.int IntKind.i64 (x13 + 1)], H)) :=
  lp_of [.e, .e, .b true, .v (.pointer (some ⟨x33p, x33o, some x33l⟩)), .v (.string x34), .v (.bool x36), .v (.pointer (some ⟨x39p, x39o, some x39l⟩)), .v (.string x40), .v (.bool x42), .e, .b false, .e] (fun e => (decide (x13 < (↑x12n : Int)) = true) ∧ (aindexAddr cfg.P 22 (Value.slice x12a x12n x12c) (Value.int IntKind.i64 x13) = some (Value.pointer (some { block := x33p, off := x33o, spot := some x33l }))) ∧ (getCells H x33p x33l x33o 1 = some [Value.string x34]) ∧ (callInf cfg 24 [Value.string x34, Value.string x2] (List.length H0) H = some (Value.bool x36, H)) ∧ (aindexAddr cfg.P 22 (Value.slice x12a x12n x12c) (Value.int IntKind.i64 x13) = some (Value.pointer (some { block := x39p, off := x39o, spot := some x39l }))) ∧ (getCells H x39p x39l x39o 1 = some [Value.string x40]) ∧ (callInf cfg 24 [Value.string x40, Value.string x3] (List.length H0) H = some (Value.bool x42, H)) ∧ ((!x36 == x42) = false) ∧ (Fit IntKind.i64 (x13 + 1)) ∧ e) (by kernel_rfl) ⟨decide_eq_true h1, h2, h3, h4, h5, h6, h7, h8, h9, rfl⟩
theorem f22_L0_2 (x2 : ByteArray) (x3 : ByteArray) (x12a : Option Addr) (x12n : Nat) (x12c : Nat) (x13 : Int) (H0 : AHeap) (prot : Nat) (H : AHeap) (h1 : ¬(x13 < (↑x12n : Int))) : lpOf cfg a22 0 prot H0 ([.string x2, .string x3, .slice x12a x12n x12c, .int .i64 x13], H) = some (Sum.inr (Ex.exit 0, [Value.tuple { toList := [] }, Value.tuple { toList := [] }, Value.tuple { toList := [] }], H)) :=
  lp_of [.e, .e, .b false] (fun e => (decide (x13 < (↑x12n : Int)) = false) ∧ e) (by kernel_rfl) ⟨decide_eq_false h1, rfl⟩
end Go.Proofs.Ytedfombojnfbiaa.Am24
set_option linter.unusedVariables false
open Go Go.Proofs.Ytedfombojnfbiaa.Am
namespace Go.Proofs.Ytedfombojnfbiaa.Am24
theorem f16_F_0 (x0 : Int) (x1 : Int) (x2 : ByteArray) (x3 : ByteArray) (H : AHeap) (prot : Nat) (x18a : ByteArray) (x18b : Bool) (x18c : Int) (h1 : callInf cfg 21 [Value.int IntKind.i64 x0, Value.int IntKind.i64 x1, Value.string x2, Value.string x3] (List.length H) H = some (Value.tuple { toList := [Value.string x18a, Value.bool x18b, Value.int IntKind.i64 x18c] }, H)) (h2 : (x18c == 0) = true) : callInf cfg 16 [.int .i64 x0, .int .i64 x1, .string x2, .string x3] prot H = some (Value.tuple { toList := [Value.bool !x18b, Value.int IntKind.i64 x18c] }, H) :=
  fn_of a16 [.v (.tuple #[.string x18a, .bool x18b, .int .i64 x18c]), .e, .b true, .b true, .e, .b true] (fun e => (callInf cfg 21 [Value.int IntKind.i64 x0, Value.int IntKind.i64 x1, Value.string x2, Value.string x3] (List.length H) H = some (Value.tuple { toList := [Value.string x18a, Value.bool x18b, Value.int IntKind.i64 x18c] }, H)) ∧ ((x18c == 0) = true) ∧ ((x18c == 0) = true) ∧ ((x18c == 0) = true) ∧ e) (by kernel_rfl) ⟨h1, h2, h2, h2, rfl⟩ rfl
theorem f16_F_1 (x0 : Int) (x1 : Int) (x2 : ByteArray) (x3 : ByteArray) (H : AHeap) (prot : Nat) (x18a : ByteArray) (x18b : Bool) (x18c : Int) (h1 : callInf cfg 21 [Value.int IntKind.i64 x0, Value.int IntKind.i64 x1, Value.string x2, Value.string x3] (List.length H) H = some (Value.tuple { toList := [Value.string x18a, Value.bool x18b, Value.int IntKind.i64 x18c] }, H)) (h2 : (x18c == 0) = false) : callInf cfg 16 [.int .i64 x0, .int .i64 x1, .string x2, .string x3] prot H = some (Value.tuple { toList := [Value.bool false, Value.int IntKind.i64 x18c] }, H) :=
  fn_of a16 [.v (.tuple #[.string x18a, .bool x18b, .int .i64 x18c]), .e, .b false, .b false, .b false] (fun e => (callInf cfg 21 [Value.int IntKind.i64 x0, Value.int IntKind.i64 x1, Value.string x2, Value.string x3] (List.length H) H = some (Value.tuple { toList := [Value.string x18a, Value.bool x18b, Value.int IntKind.i64 x18c] }, H)) ∧ ((x18c == 0) = false) ∧ ((x18c == 0) = false) ∧ ((x18c == 0) = false) ∧ e) (by kernel_rfl) ⟨h1, h2, h2, h2, rfl⟩ rfl
end Go.Proofs.Ytedfombojnfbiaa.Am24
set_option linter.unusedVariables false
open Go Go.Proofs.Ytedfombojnfbiaa.Am
namespace Go.Proofs.Ytedfombojnfbiaa.Am24
theorem f20_F_0 (x0 : Int) (x1 : Int) (x2 : ByteArray) (x3 : ByteArray) (H : AHeap) (prot : Nat) (x18a : ByteArray) (x18b : Bool) (x18c : Int) (h1 : callInf cfg 22 [Value.int IntKind.i64 x0, Value.int IntKind.i64 x1, Value.string x2, Value.string x3] (List.length H) H = some (Value.tuple { toList := [Value.string x18a, Value.bool x18b, Value.int IntKind.i64 x18c] }, H)) (h2 : (x18c == 0) = true) : callInf cfg 20 [.int .i64 x0, .int .i64 x1, .string x2, .string x3] prot H = some (Value.tuple { toList := [Value.bool !x18b, Value.int IntKind.i64 x18c] }, H) :=
  fn_of a20 [.v (.tuple #[.string x18a, .bool x18b, .int .i64 x18c]), .e, .b true, .b true, .e, .b true] (fun e => (callInf cfg 22 [Value.int IntKind.i64 x0, Value.int IntKind.i64 x1, Value.string x2, Value.string x3] (List.length H) H = some (Value.tuple { toList := [Value.string x18a, Value.bool x18b, Value.int IntKind.i64 x18c] }, H)) ∧ ((x18c == 0) = true) ∧ ((x18c == 0) = true) ∧ ((x18c == 0) = true) ∧ e) (by kernel_rfl) ⟨h1, h2, h2, h2, rfl⟩ rfl
theorem f20_F_1 (x0 : Int) (x1 : Int) (x2 : ByteArray) (x3 : ByteArray) (H : AHeap) (prot : Nat) (x18a : ByteArray) (x18b : Bool) (x18c : Int) (h1 : callInf cfg 22 [Value.int IntKind.i64 x0, Value.int IntKind.i64 x1, Value.string x2, Value.string x3] (List.length H) H = some (Value.tuple { toList := [Value.string x18a, Value.bool x18b, Value.int IntKind.i64 x18c] }, H)) (h2 : (x18c == 0) = false) : callInf cfg 20 [.int .i64 x0, .int .i64 x1, .string x2, .string x3] prot H = some (Value.tuple { toList := [Value.bool false, Value.int IntKind.i64 x18c] }, H) :=
  fn_of a20 [.v (.tuple #[.string x18a, .bool x18b, .int .i64 x18c]), .e, .b false, .b false, .b false] (fun e => (callInf cfg 22 [Value.int IntKind.i64 x0, Value.int IntKind.i64 x1, Value.string x2, Value.string x3] (List.length H) H = some (Value.tuple { toList := [Value.string x18a, Value.bool x18b, Value.int IntKind.i64 x18c] }, H)) ∧ ((x18c == 0) = false) ∧ ((x18c == 0) = false) ∧ ((x18c == 0) = false) ∧ e) (by kernel_rfl) ⟨h1, h2, h2, h2, rfl⟩ rfl
end Go.Proofs.Ytedfombojnfbiaa.Am24
namespace Go.Proofs.Ytedfombojnfbiaa.Am24
open Go Go.Proofs.Ytedfombojnfbiaa.Am

/-- The least number from i on, among d, whose word is a piece of just one. -/
def dif (k : Nat) (u v : ByteArray) : Nat → Nat → Option Nat
  | 0, _ => none
  | d + 1, i => if isP (txt k i) u = isP (txt k i) v then dif k u v d (i + 1) else some i

def difOut (k : Nat) : Option Nat → LO → LO
  | none, x => x
  | some j, (_, _, H) => (.ret, [.string (txt k j), .bool true, .int .i64 0], H)

theorem nb {a b : Bool} (h : a = b) : (!a == b) = false := by subst h; cases a <;> rfl
theorem nb' {a b : Bool} (h : ¬ a = b) : (!a == b) = true := by cases a <;> cases b <;> simp_all

theorem txt_call {k i n : Nat} (hk1 : 1 ≤ k) (hk : k ≤ 8) (hn : n ≤ 4) (hi : i < sho k (n + 1)) (prot : Nat) (H : AHeap) : callInf cfg 34 [.int .i64 k, .int .i64 i] prot H = some (.string (txt k i), H) := by
  have hs := txt_size hk1 hi
  rw [txt_eq, strOf_size] at hs
  have hr := sho_room hk hn
  have hss := sho_succ k n
  exact c34 hk1 hk (by have : (wl k i).length = (digs k i i).length := by simp [wl]
                       omega) (by omega) prot H

theorem loop21 {k n : Nat} (hk1 : 1 ≤ k) (hk : k ≤ 8) (hn : n ≤ 4) {u v : ByteArray} (hu : Wd k u) (hv : Wd k v) (p q : Nat) (H0 H : AHeap) (prot : Nat) (hp : H[p]? = some (kobj (kindOf k n u))) (hq : H[q]? = some (kobj (kindOf k n v))) : ∀ (d i : Nat), i + d = sho k (n + 1) →
    lpInf (lpOf cfg a21 0 prot H0) ([.int .i64 k, .pointer (some ⟨p, 0, some 74⟩), .pointer (some ⟨q, 0, some 74⟩), .int .i64 (sho k (n + 1) : Nat), .int .i64 i], H) =
      some (difOut k (dif k u v d i) (.exit 0, [.tuple #[], .tuple #[], .tuple #[]], H))
  | 0, i, hi => lp_last (f21_L0_2 k p 0 74 q 0 74 (sho k (n + 1) : Nat) i H0 prot H (by omega))
  | d + 1, i, hi => by
    have hr := sho_room hk hn
    have hss := sho_succ k n
    have h1 := c33 (kindOf_ok k n u) hp (Nat.le_refl _) (i := i) (by omega) H0.length
    have h2 := c33 (kindOf_ok k n v) hq (Nat.le_refl _) (i := i) (by omega) H0.length
    rw [kind_bits hk1 hk hn hu (by omega)] at h1
    rw [kind_bits hk1 hk hn hv (by omega)] at h2
    by_cases he : isP (txt k i) u = isP (txt k i) v
    · have e : dif k u v (d + 1) i = dif k u v d (i + 1) := by simp only [dif, if_pos he]
      rw [e]
      exact lp_next (f21_L0_1 k p 0 74 q 0 74 (sho k (n + 1) : Nat) i H0 prot H _ _ (by omega) h1 h2 (nb he) (fit64 (by omega) (by omega))) (loop21 hk1 hk hn hu hv p q H0 H prot hp hq d (i + 1) (by omega))
    · have e : dif k u v (d + 1) i = some i := by simp only [dif, if_neg he]
      rw [e]
      exact lp_last (f21_L0_0 k p 0 74 q 0 74 (sho k (n + 1) : Nat) i H0 prot H _ _ _ (by omega) h1 h2 (nb' he) (txt_call hk1 hk hn (by omega) _ _))

/-- What Differ answers. -/
def difV (k n : Int) (u v : ByteArray) : ByteArray × Bool × Int :=
  if pchk k n [u, v] = 0 then
    match dif k.toNat u v (sho k.toNat (n.toNat + 1)) 0 with
    | some j => (txt k.toNat j, true, 0)
    | none => (⟨#[]⟩, false, 0)
  else (⟨#[]⟩, false, pchk k n [u, v])
def difT (x : ByteArray × Bool × Int) : Value := .tuple #[.string x.1, .bool x.2.1, .int .i64 x.2.2]

theorem pchk_ok {k n : Int} {l : List ByteArray} (h : pchk k n l = 0) : 1 ≤ k ∧ k ≤ 8 ∧ 0 ≤ n ∧ n ≤ 4 ∧ ∀ w ∈ l, Wd k.toNat w := by
  unfold pchk at h
  split at h
  · cases h
  · rename_i h1
    split at h
    · cases h
    · rename_i h2
      refine ⟨by omega, by omega, by omega, by omega, ?_⟩
      induction l with
      | nil => intro w hw; cases hw
      | cons x l ih =>
        simp only [chks] at h
        split at h
        · rename_i h3
          intro w hw
          rcases List.mem_cons.1 hw with rfl | hw
          · unfold chk at h3
            rw [if_neg h1] at h3
            split at h3
            · rename_i h4; exact (okW_iff _ _).1 h4
            · cases h3
          · exact ih h w hw
        · rename_i h3; exact absurd h h3

theorem c21 (k n : Int) (u v : ByteArray) (hu : u.size < 9223372036854775807) (hv : v.size < 9223372036854775807) (prot : Nat) (H : AHeap) :
    callInf cfg 21 [.int .i64 k, .int .i64 n, .string u, .string v] prot H = some (difT (difV k n u v), H) := by
  let H1 := H ++ [AObj.cells (sc [u, v]) 9 (sc [u, v]).length .row]
  have l1 : H1.length = H.length + 1 := by simp [H1]
  have hc := c26 (k := k) (n := n) (l := [u, v]) H.length H1 (own_new (H := H) (e := 9) (s := 1) (n := 2) (cs := sc [u, v]) rfl (by omega) (L := 2 * 1) rfl rfl) (by omega)
  unfold difV
  by_cases h0 : pchk k n [u, v] = 0
  · rw [if_pos h0]
    rw [h0] at hc
    obtain ⟨a1, a2, a3, a4, a5⟩ := pchk_ok h0
    obtain ⟨k, rfl⟩ : ∃ k' : Nat, k = k' := ⟨k.toNat, by omega⟩
    obtain ⟨n, rfl⟩ : ∃ n' : Nat, n = n' := ⟨n.toNat, by omega⟩
    rw [Int.toNat_natCast] at a5
    have wu : Wd k u := a5 u (by simp)
    have wv : Wd k v := a5 v (by simp)
    have hk : k ≤ 8 := by omega
    have hn : n ≤ 4 := by omega
    let H2 := H1 ++ [kobj (List.replicate 74 0)]
    let H3 := H2 ++ [kobj (List.replicate 74 0)]
    have l2 : H2.length = H.length + 2 := by simp [H2, l1]
    have g1 : H3[H1.length]? = some (kobj (List.replicate 74 0)) := by
      show (H2 ++ _)[H1.length]? = _
      rw [List.getElem?_append_left (by omega)]
      exact append_get.1
    have g2 : H3[H2.length]? = some (kobj (List.replicate 74 0)) := append_get.1
    let H4 := H3.set H1.length (kobj (kindOf k n u))
    have g24 : H4[H2.length]? = some (kobj (List.replicate 74 0)) := by rw [show H4 = H3.set H1.length (kobj (kindOf k n u)) from rfl, get_set_ne (by omega)]; exact g2
    let H5 := H4.set H2.length (kobj (kindOf k n v))
    have g15 : H5[H1.length]? = some (kobj (kindOf k n u)) := by rw [show H5 = H4.set H2.length (kobj (kindOf k n v)) from rfl, get_set_ne (by omega)]; exact get_set_self g1
    have g25 : H5[H2.length]? = some (kobj (kindOf k n v)) := get_set_self g24
    have hl := loop21 (by omega) hk hn wu wv H1.length H2.length H H5 prot g15 g25 (sho k (n + 1)) 0 (by omega)
    have e11 : (n : Int) + 1 = ((n + 1 : Nat) : Int) := by omega
    have h12 := c32 hk (n := n + 1) (by omega) H.length H5
    rw [← e11] at h12
    have hlen : ∀ ws, KOK ws → (kc ws).toArray.toList.length = 74 := fun ws h => by show (kc ws).length = 74; rw [kc_len, h.1]
    rw [Int.toNat_natCast, Int.toNat_natCast]
    cases hd : dif k u v (sho k (n + 1)) 0 with
    | none =>
      rw [hd] at hl
      exact f21_F_1 k n u v H prot 0 (kc (kindOf k n u)).toArray (kc (kindOf k n v)).toArray H1.length 0 74 H2 H2.length 0 74 H3 H4 H5 _ _ _ _ _ hc rfl (c30 hk hn wu hu _ _) (c30 hk hn wv hv _ _) (alloc65 H1) (alloc65 H2)
        (hlen _ (kindOf_ok _ _ _)) (kset_all zeroOK (kindOf_ok _ _ _) g1 (by omega)) (hlen _ (kindOf_ok _ _ _)) (kset_all zeroOK (kindOf_ok _ _ _) g24 (by omega)) (fit64 (by omega) (by omega)) h12 hl
    | some j =>
      rw [hd] at hl
      exact f21_F_2 k n u v H prot 0 (kc (kindOf k n u)).toArray (kc (kindOf k n v)).toArray H1.length 0 74 H2 H2.length 0 74 H3 H4 H5 _ _ _ _ _ hc rfl (c30 hk hn wu hu _ _) (c30 hk hn wv hv _ _) (alloc65 H1) (alloc65 H2)
        (hlen _ (kindOf_ok _ _ _)) (kset_all zeroOK (kindOf_ok _ _ _) g1 (by omega)) (hlen _ (kindOf_ok _ _ _)) (kset_all zeroOK (kindOf_ok _ _ _) g24 (by omega)) (fit64 (by omega) (by omega)) h12 hl
  · rw [if_neg h0]
    exact f21_F_0 k n u v H prot _ hc (by simpa using h0)

theorem loop22 {k n : Nat} (hk1 : 1 ≤ k) (hk : k ≤ 8) (hn : n ≤ 4) {u v : ByteArray} (hu : u.size < 9223372036854775807) (hv : v.size < 9223372036854775807) {x : Value} {o : Option Nat} (H0 H : AHeap) (prot : Nat)
    (hx : Own H 9 1 x o (sho k (n + 1)) (sc (wds k (sho k (n + 1))))) : ∀ (d i : Nat), i + d = sho k (n + 1) →
    lpInf (lpOf cfg a22 0 prot H0) ([.string u, .string v, x, .int .i64 i], H) = some (difOut k (dif k u v d i) (.exit 0, [.tuple #[], .tuple #[], .tuple #[]], H))
  | 0, i, hi => by
    obtain ⟨a, c, rfl⟩ := hx.len
    exact lp_last (f22_L0_2 u v a _ c i H0 prot H (by omega))
  | d + 1, i, hi => by
    obtain ⟨a, c, rfl⟩ := hx.len
    have hr := sho_room hk hn
    have hss := sho_succ k n
    have hil : i < sho k (n + 1) := by omega
    obtain ⟨id, _, g1, g2⟩ := own_at T22 hx (sc_get (wds_get hil))
    have hts := txt_size hk1 hil
    have h1 := c24 (txt k i) u (by omega) hu H0.length H
    have h2 := c24 (txt k i) v (by omega) hv H0.length H
    by_cases he : isP (txt k i) u = isP (txt k i) v
    · have e : dif k u v (d + 1) i = dif k u v d (i + 1) := by simp only [dif, if_pos he]
      rw [e]
      exact lp_next (f22_L0_1 u v a _ c i H0 prot H id i _ (txt k i) _ id i _ (txt k i) _ (by omega) g1 g2 h1 g1 g2 h2 (nb he) (fit64 (by omega) (by omega))) (loop22 hk1 hk hn hu hv H0 H prot hx d (i + 1) (by omega))
    · have e : dif k u v (d + 1) i = some i := by simp only [dif, if_neg he]
      rw [e]
      exact lp_last (f22_L0_0 u v a _ c i H0 prot H id i _ (txt k i) _ id i _ (txt k i) _ id i _ (txt k i) (by omega) g1 g2 h1 g1 g2 h2 (nb' he) g1 g2)

theorem c22 (k n : Int) (u v : ByteArray) (hu : u.size < 9223372036854775807) (hv : v.size < 9223372036854775807) (prot : Nat) (H : AHeap) :
    callInf cfg 22 [.int .i64 k, .int .i64 n, .string u, .string v] prot H = some (difT (difV k n u v), H) := by
  have hc := c28 k n u v hu hv H.length H
  unfold difV
  by_cases h0 : pchk k n [u, v] = 0
  · rw [if_pos h0]
    rw [h0] at hc
    obtain ⟨a1, a2, a3, a4, a5⟩ := pchk_ok h0
    obtain ⟨k, rfl⟩ : ∃ k' : Nat, k = k' := ⟨k.toNat, by omega⟩
    obtain ⟨n, rfl⟩ : ∃ n' : Nat, n = n' := ⟨n.toNat, by omega⟩
    obtain ⟨x, H1, r1, r2, r3⟩ := c35 (k := k) (n := n) (by omega) (by omega) (by omega) H.length H
    obtain ⟨a, c, rfl⟩ := r2.len
    have hl := loop22 (by omega) (by omega) (by omega) hu hv H H1 prot r2 (sho k (n + 1)) 0 (by omega)
    rw [Int.toNat_natCast, Int.toNat_natCast]
    cases hd : dif k u v (sho k (n + 1)) 0 with
    | none => rw [hd] at hl; exact f22_F_1 k n u v H prot 0 a _ c H1 _ _ _ _ hc rfl r1 hl
    | some j => rw [hd] at hl; exact f22_F_2 k n u v H prot 0 a _ c H1 _ _ _ _ hc rfl r1 hl
  · rw [if_neg h0]
    exact f22_F_0 k n u v H prot _ hc (by simpa using h0)

/-- What Same answers. -/
def sameV (k n : Int) (u v : ByteArray) : Bool × Int := if (difV k n u v).2.2 = 0 then (!(difV k n u v).2.1, 0) else (false, (difV k n u v).2.2)
def sameT (x : Bool × Int) : Value := .tuple #[.bool x.1, .int .i64 x.2]

theorem c16 (k n : Int) (u v : ByteArray) (hu : u.size < 9223372036854775807) (hv : v.size < 9223372036854775807) (prot : Nat) (H : AHeap) :
    callInf cfg 16 [.int .i64 k, .int .i64 n, .string u, .string v] prot H = some (sameT (sameV k n u v), H) := by
  have h := c21 k n u v hu hv H.length H
  unfold sameV
  by_cases h0 : (difV k n u v).2.2 = 0
  · rw [if_pos h0]
    have := f16_F_0 k n u v H prot _ _ _ h (by rw [h0]; rfl)
    rw [h0] at this
    exact this
  · rw [if_neg h0]
    exact f16_F_1 k n u v H prot _ _ _ h (by simpa using h0)
theorem c20 (k n : Int) (u v : ByteArray) (hu : u.size < 9223372036854775807) (hv : v.size < 9223372036854775807) (prot : Nat) (H : AHeap) :
    callInf cfg 20 [.int .i64 k, .int .i64 n, .string u, .string v] prot H = some (sameT (sameV k n u v), H) := by
  have h := c22 k n u v hu hv H.length H
  unfold sameV
  by_cases h0 : (difV k n u v).2.2 = 0
  · rw [if_pos h0]
    have := f20_F_0 k n u v H prot _ _ _ h (by rw [h0]; rfl)
    rw [h0] at this
    exact this
  · rw [if_neg h0]
    exact f20_F_1 k n u v H prot _ _ _ h (by simpa using h0)
end Go.Proofs.Ytedfombojnfbiaa.Am24
set_option linter.unusedVariables false
open Go Go.Proofs.Ytedfombojnfbiaa.Am
namespace Go.Proofs.Ytedfombojnfbiaa.Am24
theorem f15_F_0 (x0 : Int) (x1 : Int) (x2 : ByteArray) (H : AHeap) (prot : Nat) (x9 : Int) (h1 : callInf cfg 31 [Value.int IntKind.i64 x0, Value.string x2] (List.length H) H = some (Value.int IntKind.i64 x9, H)) (h2 : (x9 == 0) = true) (h3 : x1 ≥ 0) : callInf cfg 15 [.int .i64 x0, .int .i64 x1, .string x2] prot H = some (Value.bool (decide (x1 ≤ 4)), H) :=
  fn_of a15 [.v (.int .i64 x9), .e, .b true, .b true, .e, .b true, .b true, .b true, .e, .b true] (fun e => (callInf cfg 31 [Value.int IntKind.i64 x0, Value.string x2] (List.length H) H = some (Value.int IntKind.i64 x9, H)) ∧ ((x9 == 0) = true) ∧ ((x9 == 0) = true) ∧ ((x9 == 0) = true) ∧ (decide (x1 ≥ 0) = true) ∧ (decide (x1 ≥ 0) = true) ∧ (decide (x1 ≥ 0) = true) ∧ e) (by kernel_rfl) ⟨h1, h2, h2, h2, decide_eq_true h3, decide_eq_true h3, decide_eq_true h3, rfl⟩ rfl
theorem f15_F_1 (x0 : Int) (x1 : Int) (x2 : ByteArray) (H : AHeap) (prot : Nat) (x9 : Int) (h1 : callInf cfg 31 [Value.int IntKind.i64 x0, Value.string x2] (List.length H) H = some (Value.int IntKind.i64 x9, H)) (h2 : (x9 == 0) = true) (h3 : ¬(x1 ≥ 0)) : callInf cfg 15 [.int .i64 x0, .int .i64 x1, .string x2] prot H = some (Value.bool false, H) :=
  fn_of a15 [.v (.int .i64 x9), .e, .b true, .b true, .e, .b true, .b false, .b false, .b false] (fun e => (callInf cfg 31 [Value.int IntKind.i64 x0, Value.string x2] (List.length H) H = some (Value.int IntKind.i64 x9, H)) ∧ ((x9 == 0) = true) ∧ ((x9 == 0) = true) ∧ ((x9 == 0) = true) ∧ (decide (x1 ≥ 0) = false) ∧ (decide (x1 ≥ 0) = false) ∧ (decide (x1 ≥ 0) = false) ∧ e) (by kernel_rfl) ⟨h1, h2, h2, h2, decide_eq_false h3, decide_eq_false h3, decide_eq_false h3, rfl⟩ rfl
theorem f15_F_2 (x0 : Int) (x1 : Int) (x2 : ByteArray) (H : AHeap) (prot : Nat) (x9 : Int) (h1 : callInf cfg 31 [Value.int IntKind.i64 x0, Value.string x2] (List.length H) H = some (Value.int IntKind.i64 x9, H)) (h2 : (x9 == 0) = false) : callInf cfg 15 [.int .i64 x0, .int .i64 x1, .string x2] prot H = some (Value.bool false, H) :=
  fn_of a15 [.v (.int .i64 x9), .e, .b false, .b false, .b false, .b false, .b false, .b false] (fun e => (callInf cfg 31 [Value.int IntKind.i64 x0, Value.string x2] (List.length H) H = some (Value.int IntKind.i64 x9, H)) ∧ ((x9 == 0) = false) ∧ ((x9 == 0) = false) ∧ ((x9 == 0) = false) ∧ (false = false) ∧ (false = false) ∧ (false = false) ∧ e) (by kernel_rfl) ⟨h1, h2, h2, h2, rfl, rfl, rfl, rfl⟩ rfl
end Go.Proofs.Ytedfombojnfbiaa.Am24
set_option linter.unusedVariables false
open Go Go.Proofs.Ytedfombojnfbiaa.Am
namespace Go.Proofs.Ytedfombojnfbiaa.Am24
theorem f17_F_0 (x0 : ByteArray) (x1 : Int) (H : AHeap) (prot : Nat) (z5 : ByteArray) (H1 : AHeap) (h1 : lpInf (lpOf cfg a17 0 prot H) ([Value.string x0, Value.int IntKind.i64 x1, Value.string { data := { toList := [] } }, Value.int IntKind.i64 0], H) = some (Ex.exit 0, [Value.string z5], H1)) : callInf cfg 17 [.string x0, .int .i64 x1] prot H = some (Value.string z5, H) :=
  fn_of a17 [.lo (.exit 0, [.string z5], H1)] (fun e => (lpInf (lpOf cfg a17 0 prot H) ([Value.string x0, Value.int IntKind.i64 x1, Value.string { data := { toList := [] } }, Value.int IntKind.i64 0], H) = some (Ex.exit 0, [Value.string z5], H1)) ∧ e) (by kernel_rfl) ⟨h1, rfl⟩ rfl
theorem f17_L0_0 (x0 : ByteArray) (x1 : Int) (x5 : ByteArray) (x6 : Int) (H0 : AHeap) (prot : Nat) (H : AHeap) (h1 : x6 < x1) (h2 : x5.size + x0.size ≤ 9223372036854775807) (h3 : Fit IntKind.i64 (x6 + 1)) : lpOf cfg a17 0 prot H0 ([.string x0, .int .i64 x1, .string x5, .int .i64 x6], H) = some (Sum.inl ([Value.string x0, Value.int IntKind.i64 x1, Value.string (x5 ++ x0), Value.int IntKind.i64 (x6 + 1)], H)) :=
  lp_of [.e, .b true, .e, .e] (fun e => (decide (x6 < x1) = true) ∧ (x5.size + x0.size ≤ 9223372036854775807) ∧ (Fit IntKind.i64 (x6 + 1)) ∧ e) (by kernel_rfl) ⟨decide_eq_true h1, h2, h3, rfl⟩
theorem f17_L0_1 (x0 : ByteArray) (x1 : Int) (x5 : ByteArray) (x6 : Int) (H0 : AHeap) (prot : Nat) (H : AHeap) (h1 : ¬(x6 < x1)) : lpOf cfg a17 0 prot H0 ([.string x0, .int .i64 x1, .string x5, .int .i64 x6], H) = some (Sum.inr (Ex.exit 0, [Value.string x5], H)) :=
  lp_of [.e, .b false] (fun e => (decide (x6 < x1) = false) ∧ e) (by kernel_rfl) ⟨decide_eq_false h1, rfl⟩
end Go.Proofs.Ytedfombojnfbiaa.Am24
