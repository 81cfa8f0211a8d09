/- A part of the proof of a given statement: P24_19, P24_12, Sp24_Pieces. No condition. -/
import Derived.Test.YtedfombojnfbiaaPart10
set_option linter.unusedVariables false
open Go Go.Proofs.Ytedfombojnfbiaa.Am
namespace Go.Proofs.Ytedfombojnfbiaa.Am24
theorem f19_F_0 (x0 : Int) (x1 : ByteArray) (x2 : Int) (H : AHeap) (prot : Nat) (x15 : Int) (h1 : callInf cfg 28 [Value.int IntKind.i64 x0, Value.int IntKind.i64 x2, Value.string x1, Value.string { data := { toList := [] } }] (List.length H) H = some (Value.int IntKind.i64 x15, H)) (h2 : (x15 != 0) = true) : callInf cfg 19 [.int .i64 x0, .string x1, .int .i64 x2] prot H = some (Value.tuple { toList := [Value.slice none 0 0, Value.int IntKind.i64 x15] }, H) :=
  fn_of a19 [.v (.int .i64 x15), .e, .b true] (fun e => (callInf cfg 28 [Value.int IntKind.i64 x0, Value.int IntKind.i64 x2, Value.string x1, Value.string { data := { toList := [] } }] (List.length H) H = some (Value.int IntKind.i64 x15, H)) ∧ ((x15 != 0) = true) ∧ e) (by kernel_rfl) ⟨h1, h2, rfl⟩ rfl
theorem f19_F_1 (x0 : Int) (x1 : ByteArray) (x2 : Int) (H : AHeap) (prot : Nat) (x15 : Int) (x21a : Option Addr) (x21n : Nat) (x21c : Nat) (H1 : AHeap) (z9a : Option Addr) (z9n : Nat) (z9c : Nat) (H2 : AHeap) (rv : Value) (rH : AHeap) (h1 : callInf cfg 28 [Value.int IntKind.i64 x0, Value.int IntKind.i64 x2, Value.string x1, Value.string { data := { toList := [] } }] (List.length H) H = some (Value.int IntKind.i64 x15, H)) (h2 : (x15 != 0) = false) (h3 : callInf cfg 35 [Value.int IntKind.i64 x0, Value.int IntKind.i64 x2] (List.length H) H = some (Value.slice x21a x21n x21c, H1)) (h4 : lpInf (lpOf cfg a19 0 prot H) ([Value.string x1, Value.slice none 0 0, Value.slice x21a x21n x21c, Value.int IntKind.i64 0], H1) = some (Ex.exit 0, [Value.slice z9a z9n z9c], H2)) (h5 : pfin a19 H [Value.slice z9a z9n z9c, Value.int IntKind.i64 0] H2 = (rv, rH)) : callInf cfg 19 [.int .i64 x0, .string x1, .int .i64 x2] prot H = some (rv, rH) :=
  fn_of' a19 [.v (.int .i64 x15), .e, .b false, .r (.slice x21a x21n x21c) H1, .lo (.exit 0, [.slice z9a z9n z9c], H2)] ((callInf cfg 28 [Value.int IntKind.i64 x0, Value.int IntKind.i64 x2, Value.string x1, Value.string { data := { toList := [] } }] (List.length H) H = some (Value.int IntKind.i64 x15, H)) ∧ ((x15 != 0) = false) ∧ (callInf cfg 35 [Value.int IntKind.i64 x0, Value.int IntKind.i64 x2] (List.length H) H = some (Value.slice x21a x21n x21c, H1)) ∧ (lpInf (lpOf cfg a19 0 prot H) ([Value.string x1, Value.slice none 0 0, Value.slice x21a x21n x21c, Value.int IntKind.i64 0], H1) = some (Ex.exit 0, [Value.slice z9a z9n z9c], H2)) ∧ (pfin a19 H [Value.slice z9a z9n z9c, Value.int IntKind.i64 0] H2 = (rv, rH))) (by kernel_rfl) ⟨h1, h2, h3, h4, h5⟩ rfl
theorem f19_L0_0 (x1 : ByteArray) (x9a : Option Addr) (x9n : Nat) (x9c : Nat) (x10a : Option Addr) (x10n : Nat) (x10c : Nat) (x11 : Int) (H0 : AHeap) (prot : Nat) (H : AHeap) (x30p : Nat) (x30o : Nat) (x30l : Nat) (x31 : ByteArray) (x33 : Bool) (x37p : Nat) (x37o : Nat) (x37l : Nat) (x38 : ByteArray) (x40a : Option Addr) (x40n : Nat) (x40c : Nat) (H2 : AHeap) (h1 : x11 < (↑x10n : Int)) (h2 : aindexAddr cfg.P 22 (Value.slice x10a x10n x10c) (Value.int IntKind.i64 x11) = some (Value.pointer (some { block := x30p, off := x30o, spot := some x30l }))) (h3 : getCells H x30p x30l x30o 1 = some [Value.string x31]) (h4 : callInf cfg 24 [Value.string x31, Value.string x1] (List.length H0) H = some (Value.bool x33, H)) (h5 : x33 = true) (h6 : aindexAddr cfg.P 22 (Value.slice x10a x10n x10c) (Value.int IntKind.i64 x11) = some (Value.pointer (some { block := x37p, off := x37o, spot := some x37l }))) (h7 : getCells H x37p x37l x37o 1 = some [Value.string x38]) (h8 : aappend cfg.P (List.length H0) true 22 22 (Value.slice x9a x9n x9c) (Value.slice (some { block := List.length H, off := 0, spot := some (1 * 1) }) 1 1) (H ++ [AObj.cells [Value.string x38] 9 [Value.string x38].length OMode.row]) = some (Value.slice x40a x40n x40c, H2)) (h9 : Fit IntKind.i64 (x11 + 1)) : lpOf cfg a19 0 prot H0 ([.string x1, .slice x9a x9n x9c, .slice x10a x10n x10c, .int .i64 x11], H) = some (Sum.inl ([Value.string x1, Value.slice x40a x40n x40c, Value.slice x10a x10n x10c, Value.int IntKind.i64 (x11 + 1)], H2)) :=
  lp_of [.e, .e, .b true, .v (.pointer (some ⟨x30p, x30o, some x30l⟩)), .v (.string x31), .v (.bool x33), .b true, .v (.pointer (some ⟨x37p, x37o, some x37l⟩)), .v (.string x38), .e, .r (.slice x40a x40n x40c) H2, .e] (fun e => (decide (x11 < (↑x10n : Int)) = true) ∧ (aindexAddr cfg.P 22 (Value.slice x10a x10n x10c) (Value.int IntKind.i64 x11) = some (Value.pointer (some { block := x30p, off := x30o, spot := some x30l }))) ∧ (getCells H x30p x30l x30o 1 = some [Value.string x31]) ∧ (callInf cfg 24 [Value.string x31, Value.string x1] (List.length H0) H = some (Value.bool x33, H)) ∧ (x33 = true) ∧ (aindexAddr cfg.P 22 (Value.slice x10a x10n x10c) (Value.int IntKind.i64 x11) = some (Value.pointer (some { block := x37p, off := x37o, spot := some x37l }))) ∧ (getCells H x37p x37l x37o 1 = some [Value.string x38]) ∧ (aappend cfg.P (List.length H0) true 22 22 (Value.slice x9a x9n x9c) (Value.slice (some { block := List.length H, off := 0, spot := some (1 * 1) }) 1 1) (H ++ [AObj.cells [Value.string x38] 9 [Value.string x38].length OMode.row]) = some (Value.slice x40a x40n x40c, H2)) ∧ (Fit IntKind.i64 (x11 + 1)) ∧ e) (by kernel_rfl) ⟨decide_eq_true h1, h2, h3, h4, h5, h6, h7, h8, h9, rfl⟩
theorem f19_L0_1 (x1 : ByteArray) (x9a : Option Addr) (x9n : Nat) (x9c : Nat) (x10a : Option Addr) (x10n : Nat) (x10c : Nat) (x11 : Int) (H0 : AHeap) (prot : Nat) (H : AHeap) (x30p : Nat) (x30o : Nat) (x30l : Nat) (x31 : ByteArray) (x33 : Bool) (h1 : x11 < (↑x10n : Int)) (h2 : aindexAddr cfg.P 22 (Value.slice x10a x10n x10c) (Value.int IntKind.i64 x11) = some (Value.pointer (some { block := x30p, off := x30o, spot := some x30l }))) (h3 : getCells H x30p x30l x30o 1 = some [Value.string x31]) (h4 : callInf cfg 24 [Value.string x31, Value.string x1] (List.length H0) H = some (Value.bool x33, H)) (h5 : x33 = false) (h6 : Fit IntKind.i64 (x11 + 1)) : lpOf cfg a19 0 prot H0 ([.string x1, .slice x9a x9n x9c, .slice x10a x10n x10c, .int .i64 x11], H) = some (Sum.inl ([Value.string x1, Value.slice x9a x9n x9c, Value.slice x10a x10n x10c, Value.int IntKind.i64 (x11 + 1)], H)) :=
  lp_of [.e, .e, .b true, .v (.pointer (some ⟨x30p, x30o, some x30l⟩)), .v (.string x31), .v (.bool x33), .b false, .e] (fun e => (decide (x11 < (↑x10n : Int)) = true) ∧ (aindexAddr cfg.P 22 (Value.slice x10a x10n x10c) (Value.int IntKind.i64 x11) = some (Value.pointer (some { block := x30p, off := x30o, spot := some x30l }))) ∧ (getCells H x30p x30l x30o 1 = some [Value.string x31]) ∧ (callInf cfg 24 [Value.string x31, Value.string x1] (List.length H0) H = some (Value.bool x33, H)) ∧ (x33 = false) ∧ (Fit IntKind.i64 (x11 + 1)) ∧ e) (by kernel_rfl) ⟨decide_eq_true h1, h2, h3, h4, h5, h6, rfl⟩
theorem f19_L0_2 (x1 : ByteArray) (x9a : Option Addr) (x9n : Nat) (x9c : Nat) (x10a : Option Addr) (x10n : Nat) (x10c : Nat) (x11 : Int) (H0 : AHeap) (prot : Nat) (H : AHeap) (h1 : ¬(x11 < (↑x10n : Int))) : lpOf cfg a19 0 prot H0 ([.string x1, .slice x9a x9n x9c, .slice x10a x10n x10c, .int .i64 x11], H) = some (Sum.inr (Ex.exit 0, [Value.slice x9a x9n x9c], H)) :=
  lp_of [.e, .e, .b false] (fun e => (decide (x11 < (↑x10n : Int)) = false) ∧ e) (by kernel_rfl) ⟨decide_eq_false h1, rfl⟩
end Go.Proofs.Ytedfombojnfbiaa.Am24
set_option linter.unusedVariables false
open Go Go.Proofs.Ytedfombojnfbiaa.Am
namespace Go.Proofs.Ytedfombojnfbiaa.Am24
theorem f12_F_0 (x0a : Option Addr) (x0n : Nat) (x0c : Nat) (x1a : Option Addr) (x1n : Nat) (x1c : Nat) (H : AHeap) (prot : Nat) (h1 : ((↑x0n : Int) != (↑x1n : Int)) = true) : callInf cfg 12 [.slice x0a x0n x0c, .slice x1a x1n x1c] prot H = some (Value.bool false, H) :=
  fn_of a12 [.e, .e, .e, .b true] (fun e => (((↑x0n : Int) != (↑x1n : Int)) = true) ∧ e) (by kernel_rfl) ⟨h1, rfl⟩ rfl
theorem f12_F_1 (x0a : Option Addr) (x0n : Nat) (x0c : Nat) (x1a : Option Addr) (x1n : Nat) (x1c : Nat) (H : AHeap) (prot : Nat) (z4 : Value) (H1 : AHeap) (h1 : ((↑x0n : Int) != (↑x1n : Int)) = false) (h2 : lpInf (lpOf cfg a12 0 prot H) ([Value.slice x0a x0n x0c, Value.slice x1a x1n x1c, Value.int IntKind.i64 0], H) = some (Ex.exit 0, [z4], H1)) : callInf cfg 12 [.slice x0a x0n x0c, .slice x1a x1n x1c] prot H = some (Value.bool true, H) :=
  fn_of a12 [.e, .e, .e, .b false, .lo (.exit 0, [z4], H1)] (fun e => (((↑x0n : Int) != (↑x1n : Int)) = false) ∧ (lpInf (lpOf cfg a12 0 prot H) ([Value.slice x0a x0n x0c, Value.slice x1a x1n x1c, Value.int IntKind.i64 0], H) = some (Ex.exit 0, [z4], H1)) ∧ e) (by kernel_rfl) ⟨h1, h2, rfl⟩ rfl
theorem f12_F_2 (x0a : Option Addr) (x0n : Nat) (x0c : Nat) (x1a : Option Addr) (x1n : Nat) (x1c : Nat) (H : AHeap) (prot : Nat) (z4 : Bool) (H1 : AHeap) (h1 : ((↑x0n : Int) != (↑x1n : Int)) = false) (h2 : lpInf (lpOf cfg a12 0 prot H) ([Value.slice x0a x0n x0c, Value.slice x1a x1n x1c, Value.int IntKind.i64 0], H) = some (Ex.ret, [Value.bool z4], H1)) : callInf cfg 12 [.slice x0a x0n x0c, .slice x1a x1n x1c] prot H = some (Value.bool z4, H) :=
  fn_of a12 [.e, .e, .e, .b false, .lo (.ret, [.bool z4], H1)] (fun e => (((↑x0n : Int) != (↑x1n : Int)) = false) ∧ (lpInf (lpOf cfg a12 0 prot H) ([Value.slice x0a x0n x0c, Value.slice x1a x1n x1c, Value.int IntKind.i64 0], H) = some (Ex.ret, [Value.bool z4], H1)) ∧ e) (by kernel_rfl) ⟨h1, h2, rfl⟩ rfl
theorem f12_L0_0 (x0a : Option Addr) (x0n : Nat) (x0c : Nat) (x1a : Option Addr) (x1n : Nat) (x1c : Nat) (x5 : Int) (H0 : AHeap) (prot : Nat) (H : AHeap) (x19p : Nat) (x19o : Nat) (x19l : Nat) (x20 : ByteArray) (x23p : Nat) (x23o : Nat) (x23l : Nat) (x24 : ByteArray) (h1 : x5 < (↑x0n : Int)) (h2 : aindexAddr cfg.P 22 (Value.slice x0a x0n x0c) (Value.int IntKind.i64 x5) = some (Value.pointer (some { block := x19p, off := x19o, spot := some x19l }))) (h3 : getCells H x19p x19l x19o 1 = some [Value.string x20]) (h4 : aindexAddr cfg.P 22 (Value.slice x1a x1n x1c) (Value.int IntKind.i64 x5) = some (Value.pointer (some { block := x23p, off := x23o, spot := some x23l }))) (h5 : getCells H x23p x23l x23o 1 = some [Value.string x24]) (h6 : (!x20.toList == x24.toList) = true) : lpOf cfg a12 0 prot H0 ([.slice x0a x0n x0c, .slice x1a x1n x1c, .int .i64 x5], H) = some (Sum.inr (Ex.ret, [Value.bool false], H)) :=
  lp_of [.e, .e, .b true, .v (.pointer (some ⟨x19p, x19o, some x19l⟩)), .v (.string x20), .v (.pointer (some ⟨x23p, x23o, some x23l⟩)), .v (.string x24), .e, .b true] (fun e => (decide (x5 < (↑x0n : Int)) = true) ∧ (aindexAddr cfg.P 22 (Value.slice x0a x0n x0c) (Value.int IntKind.i64 x5) = some (Value.pointer (some { block := x19p, off := x19o, spot := some x19l }))) ∧ (getCells H x19p x19l x19o 1 = some [Value.string x20]) ∧ (aindexAddr cfg.P 22 (Value.slice x1a x1n x1c) (Value.int IntKind.i64 x5) = some (Value.pointer (some { block := x23p, off := x23o, spot := some x23l }))) ∧ (getCells H x23p x23l x23o 1 = some [Value.string x24]) ∧ ((!x20.toList == x24.toList) = true) ∧ e) (by kernel_rfl) ⟨decide_eq_true h1, h2, h3, h4, h5, h6, rfl⟩
theorem f12_L0_1 (x0a : Option Addr) (x0n : Nat) (x0c : Nat) (x1a : Option Addr) (x1n : Nat) (x1c : Nat) (x5 : Int) (H0 : AHeap) (prot : Nat) (H : AHeap) (x19p : Nat) (x19o : Nat) (x19l : Nat) (x20 : ByteArray) (x23p : Nat) (x23o : Nat) (x23l : Nat) (x24 : ByteArray) (h1 : x5 < (↑x0n : Int)) (h2 : aindexAddr cfg.P 22 (Value.slice x0a x0n x0c) (Value.int IntKind.i64 x5) = some (Value.pointer (some { block := x19p, off := x19o, spot := some x19l }))) (h3 : getCells H x19p x19l x19o 1 = some [Value.string x20]) (h4 : aindexAddr cfg.P 22 (Value.slice x1a x1n x1c) (Value.int IntKind.i64 x5) = some (Value.pointer (some { block := x23p, off := x23o, spot := some x23l }))) (h5 : getCells H x23p x23l x23o 1 = some [Value.string x24]) (h6 : (!x20.toList == x24.toList) = false) (h7 : Fit IntKind.i64 (x5 + 1)) : lpOf cfg a12 0 prot H0 ([.slice x0a x0n x0c, .slice x1a x1n x1c, .int .i64 x5], H) = some (Sum.inl ([Value.slice x0a x0n x0c, Value.slice x1a x1n x1c, Value.int IntKind.i64 (x5 + 1)], H)) :=
  lp_of [.e, .e, .b true, .v (.pointer (some ⟨x19p, x19o, some x19l⟩)), .v (.string x20), .v (.pointer (some ⟨x23p, x23o, some x23l⟩)), .v (.string x24), .e, .b false, .e] (fun e => (decide (x5 < (↑x0n : Int)) = true) ∧ (aindexAddr cfg.P 22 (Value.slice x0a x0n x0c) (Value.int IntKind.i64 x5) = some (Value.pointer (some { block := x19p, off := x19o, spot := some x19l }))) ∧ (getCells H x19p x19l x19o 1 = some [Value.string x20]) ∧ (aindexAddr cfg.P 22 (Value.slice x1a x1n x1c) (Value.int IntKind.i64 x5) = some (Value.pointer (some { block := x23p, off := x23o, spot := some x23l }))) ∧ (getCells H x23p x23l x23o 1 = some [Value.string x24]) ∧ ((!x20.toList == x24.toList) = false) ∧ (Fit IntKind.i64 (x5 + 1)) ∧ e) (by kernel_rfl) ⟨decide_eq_true h1, h2, h3, h4, h5, h6, h7, rfl⟩
theorem f12_L0_2 (x0a : Option Addr) (x0n : Nat) (x0c : Nat) (x1a : Option Addr) (x1n : Nat) (x1c : Nat) (x5 : Int) (H0 : AHeap) (prot : Nat) (H : AHeap) (h1 : ¬(x5 < (↑x0n : Int))) : lpOf cfg a12 0 prot H0 ([.slice x0a x0n x0c, .slice x1a x1n x1c, .int .i64 x5], H) = some (Sum.inr (Ex.exit 0, [Value.tuple { toList := [] }], H)) :=
  lp_of [.e, .e, .b false] (fun e => (decide (x5 < (↑x0n : Int)) = false) ∧ e) (by kernel_rfl) ⟨decide_eq_false h1, rfl⟩
end Go.Proofs.Ytedfombojnfbiaa.Am24
namespace Go.Proofs.Ytedfombojnfbiaa.Am24
open Go Go.Proofs.Ytedfombojnfbiaa.Am

/-- The words from number i on, among d, that are pieces. -/
def pcs (k : Nat) (w : ByteArray) : Nat → Nat → List ByteArray
  | 0, _ => []
  | d + 1, i => if isP (txt k i) w then txt k i :: pcs k w d (i + 1) else pcs k w d (i + 1)
theorem pcs_len (k : Nat) (w : ByteArray) : ∀ d i, (pcs k w d i).length ≤ d
  | 0, _ => Nat.le_refl _
  | d + 1, i => by
    have := pcs_len k w d (i + 1)
    simp only [pcs]
    split
    · simp only [List.length_cons]; omega
    · omega

theorem loop18 {k n : Nat} (hk1 : 1 ≤ k) (hk : k ≤ 8) (hn : n ≤ 4) {w : ByteArray} (hw : Wd k w) (p : Nat) (H0 : AHeap) (prot : Nat) : ∀ (d i : Nat) (x : Value) (o : Option Nat) (m : Nat) (l : List ByteArray) (H : AHeap), i + d = sho k (n + 1) → m ≤ i →
    H[p]? = some (kobj (kindOf k n w)) → Own H 9 1 x o m (sc l) → (∀ id, o = some id → p < id) → H0.length ≤ p →
    ∃ a' n' c' o' H', lpInf (lpOf cfg a18 0 prot H0) ([.int .i64 k, .pointer (some ⟨p, 0, some 74⟩), x, .int .i64 (sho k (n + 1) : Nat), .int .i64 i], H) = some (.exit 0, [.slice a' n' c'], H') ∧ Own H' 9 1 (.slice a' n' c') o' n' (sc (l ++ pcs k w d i)) ∧ (∀ id, o' = some id → H0.length ≤ id)
  | 0, i, x, o, m, l, H, hi, hm, hp, hx, ho, hpH => by
    obtain ⟨a, c, rfl⟩ := hx.len
    refine ⟨a, m, c, o, H, lp_last (f18_L0_2 k p 0 74 a m c (sho k (n + 1) : Nat) i H0 prot H (by omega)), ?_, fun id h => by have := ho id h; omega⟩
    simp only [pcs, List.append_nil]
    exact hx
  | d + 1, i, x, o, m, l, H, hi, hm, hp, hx, ho, hpH => by
    obtain ⟨a, c, rfl⟩ := hx.len
    have hr := sho_room hk hn
    have hss := sho_succ k n
    have hlt := (List.getElem?_eq_some_iff.1 hp).1
    have h1 := c33 (kindOf_ok k n w) hp (Nat.le_refl _) (i := i) (by omega) H0.length
    rw [kind_bits hk1 hk hn hw (by omega)] at h1
    by_cases he : isP (txt k i) w = true
    · obtain ⟨a', c', o', H', g1, g2, g3, g4, g5, g6⟩ := own_app T22 hx (ecs := [.string (txt k i)]) rfl rfl (prot := H0.length) (room := true) (fun id h => by have := ho id h; omega) (by omega) (by omega) (L := 1 * 1) rfl (el := [Value.string (txt k i)].length) rfl
      have step := f18_L0_0 k p 0 74 a m c (sho k (n + 1) : Nat) i H0 prot H _ _ a' (m + 1) c' H' (by omega) h1 he (txt_call hk1 hk hn (by omega) _ _) g1 (fit64 (by omega) (by omega))
      have hw' : sc l ++ [.string (txt k i)] = sc (l ++ [txt k i]) := by rw [sc_append]; rfl
      rw [hw'] at g2
      obtain ⟨a2, n2, c2, o2, H2, q1, q2, q3⟩ := loop18 hk1 hk hn hw p H0 prot d (i + 1) _ (some o') (m + 1) (l ++ [txt k i]) H' (by omega) (by omega)
        (by rw [g3.2 p hlt (fun e => by have := ho p e; omega)]; exact hp) g2 (fun id h => by
          cases h
          cases o with
          | none => have := g5 rfl; omega
          | some oid => rw [g6 oid rfl]; exact ho oid rfl) hpH
      refine ⟨a2, n2, c2, o2, H2, lp_next step q1, ?_, q3⟩
      rw [show pcs k w (d + 1) i = txt k i :: pcs k w d (i + 1) by simp only [pcs]; rw [if_pos he]]
      simpa using q2
    · have step := f18_L0_1 k p 0 74 a m c (sho k (n + 1) : Nat) i H0 prot H _ (by omega) h1 (by simpa using he) (fit64 (by omega) (by omega))
      obtain ⟨a2, n2, c2, o2, H2, q1, q2, q3⟩ := loop18 hk1 hk hn hw p H0 prot d (i + 1) _ o m l H (by omega) (by omega) hp hx ho hpH
      refine ⟨a2, n2, c2, o2, H2, lp_next step q1, ?_, q3⟩
      rw [show pcs k w (d + 1) i = pcs k w d (i + 1) by simp only [pcs]; rw [if_neg he]]
      exact q2

/-- What Pieces answers. -/
def pcsV (k n : Int) (w : ByteArray) : List ByteArray × Int :=
  if pchk k n [w] = 0 then (pcs k.toNat w (sho k.toNat (n.toNat + 1)) 0, 0) else ([], pchk k n [w])

theorem c18 (k n : Int) (w : ByteArray) (hs : w.size < 9223372036854775807) (prot : Nat) (H : AHeap) :
    ∃ a' n' c' o' H', callInf cfg 18 [.int .i64 k, .string w, .int .i64 n] prot H = some (.tuple #[.slice a' n' c', .int .i64 (pcsV k n w).2], H') ∧ Own H' 9 1 (.slice a' n' c') o' n' (sc (pcsV k n w).1) ∧ Stay none H H' ∧ (∀ id, o' = some id → H.length ≤ id) := by
  let H1 := H ++ [AObj.cells (sc [w]) 9 (sc [w]).length .row]
  have l1 : H1.length = H.length + 1 := by simp [H1]
  have hc := c26 (k := k) (n := n) (l := [w]) H.length H1 (own_new (H := H) (e := 9) (s := 1) (n := 1) (cs := sc [w]) rfl (by omega) (L := 1 * 1) rfl rfl) (by omega)
  unfold pcsV
  by_cases h0 : pchk k n [w] = 0
  · rw [if_pos h0]
    rw [h0] at hc
    obtain ⟨a1, a2, a3, a4, a5⟩ := pchk_ok h0
    obtain ⟨k, rfl⟩ : ∃ k' : Nat, k = k' := ⟨k.toNat, by omega⟩
    obtain ⟨n, rfl⟩ : ∃ n' : Nat, n = n' := ⟨n.toNat, by omega⟩
    rw [Int.toNat_natCast] at a5
    have ww : Wd k w := a5 w (by simp)
    have hk : k ≤ 8 := by omega
    have hn : n ≤ 4 := by omega
    let H2 := H1 ++ [kobj (List.replicate 74 0)]
    have l2 : H2.length = H.length + 2 := by simp [H2, l1]
    have g1 : H2[H1.length]? = some (kobj (List.replicate 74 0)) := append_get.1
    let H3 := H2.set H1.length (kobj (kindOf k n w))
    have g13 : H3[H1.length]? = some (kobj (kindOf k n w)) := get_set_self g1
    have l3 : H3.length = H.length + 2 := by simp [H3, l2]
    obtain ⟨a', n', c', o', H4, q1, q2, q3⟩ := loop18 (by omega) hk hn ww H1.length H prot (sho k (n + 1)) 0 (.slice none 0 0) none 0 [] H3 (by omega) (by omega) g13 own_nil (fun id h => by cases h) (by omega)
    have e11 : (n : Int) + 1 = ((n + 1 : Nat) : Int) := by omega
    have h12 := c32 hk (n := n + 1) (by omega) H.length H3
    rw [← e11] at h12
    have hlen : ∀ ws, KOK ws → (kc ws).toArray.toList.length = 74 := fun ws h => by show (kc ws).length = 74; rw [kc_len, h.1]
    rw [Int.toNat_natCast, Int.toNat_natCast]
    obtain ⟨x', o2, H5, r1, r2, r3, r4, _⟩ := gc_row (H := H) q2 q3 (sc_plain _) (ps := [.int .i64 0]) rfl
    obtain ⟨a2, c2, rfl⟩ := r2.len
    refine ⟨a2, n', c2, o2, H5, f18_F_1 k w n H prot 0 (kc (kindOf k n w)).toArray H1.length 0 74 H2 H3 _ a' n' c' H4 _ H5 hc rfl (c30 hk hn ww hs _ _) (alloc65 H1)
        (hlen _ (kindOf_ok _ _ _)) (kset_all zeroOK (kindOf_ok _ _ _) g1 (by omega)) (fit64 (by omega) (by omega)) h12 q1 ?_, ?_, r3, r4⟩
    · rw [pfin_eq]; exact r1
    · simpa using r2
  · rw [if_neg h0]
    exact ⟨none, 0, 0, none, H, f18_F_0 k w n H prot _ hc (by simpa using h0), own_nil, Stay.refl _ _, fun id h => by cases h⟩

theorem loop19 {k n : Nat} (hk1 : 1 ≤ k) (hk : k ≤ 8) (hn : n ≤ 4) {w : ByteArray} (hs : w.size < 9223372036854775807) {y : Value} {oy : Nat} (H0 : AHeap) (prot : Nat) : ∀ (d i : Nat) (x : Value) (o : Option Nat) (m : Nat) (l : List ByteArray) (H : AHeap), i + d = sho k (n + 1) → m ≤ i →
    Own H 9 1 y (some oy) (sho k (n + 1)) (sc (wds k (sho k (n + 1)))) → Own H 9 1 x o m (sc l) → (∀ id, o = some id → oy < id) → H0.length ≤ oy →
    ∃ a' n' c' o' H', lpInf (lpOf cfg a19 0 prot H0) ([.string w, x, y, .int .i64 i], H) = some (.exit 0, [.slice a' n' c'], H') ∧ Own H' 9 1 (.slice a' n' c') o' n' (sc (l ++ pcs k w d i)) ∧ (∀ id, o' = some id → H0.length ≤ id)
  | 0, i, x, o, m, l, H, hi, hm, hy, hx, ho, hpH => by
    obtain ⟨a, c, rfl⟩ := hx.len
    obtain ⟨ya, yc, rfl⟩ := hy.len
    refine ⟨a, m, c, o, H, lp_last (f19_L0_2 w a m c ya _ yc i H0 prot H (by omega)), ?_, fun id h => by have := ho id h; omega⟩
    simp only [pcs, List.append_nil]
    exact hx
  | d + 1, i, x, o, m, l, H, hi, hm, hy, hx, ho, hpH => by
    obtain ⟨a, c, rfl⟩ := hx.len
    obtain ⟨ya, yc, rfl⟩ := hy.len
    have hr := sho_room hk hn
    have hss := sho_succ k n
    have hil : i < sho k (n + 1) := by omega
    obtain ⟨id, hid, g1, g2⟩ := own_at T22 hy (sc_get (wds_get hil))
    cases hid
    have hts := txt_size hk1 hil
    have h1 := c24 (txt k i) w (by omega) hs H0.length H
    have hlt : oy < H.length := (List.getElem?_eq_some_iff.1 hy.2.2.2.choose_spec.2).1
    by_cases he : isP (txt k i) w = true
    · obtain ⟨a', c', o', H', q1, q2, q3, q4, q5, q6⟩ := own_app T22 hx (ecs := [.string (txt k i)]) rfl rfl (prot := H0.length) (room := true) (fun id h => by have := ho id h; omega) (by omega) (by omega) (L := 1 * 1) rfl (el := [Value.string (txt k i)].length) rfl
      have step := f19_L0_0 w a m c ya _ yc i H0 prot H oy i _ (txt k i) _ oy i _ (txt k i) a' (m + 1) c' H' (by omega) g1 g2 h1 he g1 g2 q1 (fit64 (by omega) (by omega))
      have hw' : sc l ++ [.string (txt k i)] = sc (l ++ [txt k i]) := by rw [sc_append]; rfl
      rw [hw'] at q2
      obtain ⟨a2, n2, c2, o2, H2, p1, p2, p3⟩ := loop19 hk1 hk hn hs H0 prot d (i + 1) _ (some o') (m + 1) (l ++ [txt k i]) H' (by omega) (by omega)
        (hy.stay q3 (fun id h e => by cases h; have := ho oy e; omega)) q2 (fun id h => by
          cases h
          cases o with
          | none => have := q5 rfl; omega
          | some oid => rw [q6 oid rfl]; exact ho oid rfl) hpH
      refine ⟨a2, n2, c2, o2, H2, lp_next step p1, ?_, p3⟩
      rw [show pcs k w (d + 1) i = txt k i :: pcs k w d (i + 1) by simp only [pcs]; rw [if_pos he]]
      simpa using p2
    · have step := f19_L0_1 w a m c ya _ yc i H0 prot H oy i _ (txt k i) _ (by omega) g1 g2 h1 (by simpa using he) (fit64 (by omega) (by omega))
      obtain ⟨a2, n2, c2, o2, H2, p1, p2, p3⟩ := loop19 hk1 hk hn hs H0 prot d (i + 1) _ o m l H (by omega) (by omega) hy hx ho hpH
      refine ⟨a2, n2, c2, o2, H2, lp_next step p1, ?_, p3⟩
      rw [show pcs k w (d + 1) i = pcs k w d (i + 1) by simp only [pcs]; rw [if_neg he]]
      exact p2

theorem pchk_empty (k n : Int) (w : ByteArray) : pchk k n [w, ⟨#[]⟩] = pchk k n [w] := by
  unfold pchk
  split
  · rfl
  · rename_i h
    split
    · rfl
    · have : chk k ⟨#[]⟩ = 0 := by unfold chk; rw [if_neg h]; rfl
      simp only [chks, this, if_true]

theorem c19 (k n : Int) (w : ByteArray) (hs : w.size < 9223372036854775807) (prot : Nat) (H : AHeap) :
    ∃ a' n' c' o' H', callInf cfg 19 [.int .i64 k, .string w, .int .i64 n] prot H = some (.tuple #[.slice a' n' c', .int .i64 (pcsV k n w).2], H') ∧ Own H' 9 1 (.slice a' n' c') o' n' (sc (pcsV k n w).1) ∧ Stay none H H' ∧ (∀ id, o' = some id → H.length ≤ id) := by
  have hc := c28 k n w ⟨#[]⟩ hs (by show 0 < _; omega) H.length H
  rw [pchk_empty] at hc
  unfold pcsV
  by_cases h0 : pchk k n [w] = 0
  · rw [if_pos h0]
    rw [h0] at hc
    obtain ⟨a1, a2, a3, a4, a5⟩ := pchk_ok h0
    obtain ⟨k, rfl⟩ : ∃ k' : Nat, k = k' := ⟨k.toNat, by omega⟩
    obtain ⟨n, rfl⟩ : ∃ n' : Nat, n = n' := ⟨n.toNat, by omega⟩
    have hk : k ≤ 8 := by omega
    have hn : n ≤ 4 := by omega
    obtain ⟨x, H1, s1, s2, s3⟩ := c35 (k := k) (n := n) (by omega) (by omega) (by omega) H.length H
    obtain ⟨xa, xc, rfl⟩ := s2.len
    obtain ⟨a', n', c', o', H4, q1, q2, q3⟩ := loop19 (by omega) hk hn hs H prot (sho k (n + 1)) 0 (.slice none 0 0) none 0 [] H1 (by omega) (by omega) s2 own_nil (fun id h => by cases h) (by omega)
    rw [Int.toNat_natCast, Int.toNat_natCast]
    obtain ⟨x', o2, H5, r1, r2, r3, r4, _⟩ := gc_row (H := H) q2 q3 (sc_plain _) (ps := [.int .i64 0]) rfl
    obtain ⟨a2, c2, rfl⟩ := r2.len
    refine ⟨a2, n', c2, o2, H5, f19_F_1 k w n H prot 0 xa _ xc H1 a' n' c' H4 _ H5 hc rfl s1 q1 ?_, ?_, r3, r4⟩
    · rw [pfin_eq]; exact r1
    · simpa using r2
  · rw [if_neg h0]
    exact ⟨none, 0, 0, none, H, f19_F_0 k w n H prot _ hc (by simpa using h0), own_nil, Stay.refl _ _, fun id h => by cases h⟩
end Go.Proofs.Ytedfombojnfbiaa.Am24
