/- A part of the proof of a given statement: P11_40, P11_22, S11_Q, P11_42, P11_41, P11_23, S11_S, P11_24, P11_28, S11_T, P11_32, P11_27, P11_35, S11_I, P11_9, P11_14, S11_J, P11_15, S11_X, S11_Y, S11_Z, P11_6, Law11_6. No condition. -/
import Derived.Test.YtkemihfaohkoeaaPart12
set_option linter.unusedVariables false
open Go Go.Proofs.Ytkemihfaohkoeaa.Am
namespace Go.Proofs.Ytkemihfaohkoeaa.Am11
theorem f40_F_0 {x0a : Option Addr} {x0n x0c : Nat} {H : AHeap} {prot : Nat} {x10a : Option Addr} {x10n x10c : Nat} {H1 : AHeap} {x14aa : Option Addr} {x14an x14ac : Nat} {x14b : Int} {H2 : AHeap} {z6a : Option Addr} {z6n z6c : Nat} {H3 : AHeap} (rv : Value) (rH : AHeap) (h1 : callInf cfg 37 [Value.slice x0a x0n x0c] (List.length H) H = some (Value.slice x10a x10n x10c, H1)) (h2 : callInf cfg 36 [Value.slice x0a x0n x0c, Value.slice x10a x10n x10c] (List.length H) H1 = some (Value.tuple { toList := [Value.slice x14aa x14an x14ac, Value.int .i64 x14b] }, H2)) (h3 : 0 ≤ x14b) (h4 : x14b = x14b) (h5 : x14b ≤ 9223372036854775807) (h6 : (↑64 : Int) * x14b ≤ 2 ^ 48) (h7 : lpInf (lpOf cfg a40 0 prot H) ([Value.slice x0a x0n x0c, Value.slice x10a x10n x10c, Value.slice x14aa x14an x14ac, Value.slice (some ⟨List.length H2, 0, some (x14b.toNat * 8)⟩) x14b.toNat x14b.toNat, Value.int .i64 (↑x0n : Int), Value.int .i64 0], H2 ++ [AObj.cells (repCells [Value.int .u64 0, Value.int .u64 0, Value.int .u64 0, Value.int .u64 0, Value.int .u64 0, Value.int .u64 0, Value.int .u64 0, Value.int .u64 0] x14b.toNat) 39 (repCells [Value.int .u64 0, Value.int .u64 0, Value.int .u64 0, Value.int .u64 0, Value.int .u64 0, Value.int .u64 0, Value.int .u64 0, Value.int .u64 0] x14b.toNat).length OMode.row]) = some (Ex.exit 0, [Value.slice z6a z6n z6c], H3)) (h8 : pfin a40 H [Value.slice z6a z6n z6c] H3 = (rv, rH)) : callInf cfg 40 [.slice x0a x0n x0c] prot H = some (rv, rH) :=
  fn_of2 a40 [.r (.slice x10a x10n x10c) H1, .r (.tuple #[.slice x14aa x14an x14ac, .int .i64 x14b]) H2, .e, .e, .lo (.exit 0, [.slice z6a z6n z6c], H3)] (ai h1 (ai h2 (ai h3 (ai h4 (ai h5 (ai h6 (ai h7 h8))))))) (by kernel_rfl) rfl
theorem f40_L0_0 {x0a : Option Addr} {x0n x0c : Nat} {x3a : Option Addr} {x3n x3c : Nat} {x4a : Option Addr} {x4n x4c : Nat} {x6a : Option Addr} {x6n x6c : Nat} {x20 x21 : Int} {H0 : AHeap} {prot : Nat} {H : AHeap} {x27p x27o x27l : Nat} {x28 : Int} {x32p x32o x32l : Nat} {x33 : Int} {x34p x34o x34l : Nat} {x35 : Array Value} {x38p x38o x38l : Nat} {x39 : Int} {x40 : Array Value} {x41p x41o x41l : Nat} {H2 : AHeap} {z0a : Option Addr} {z0n z0c : Nat} {z3a : Option Addr} {z3n z3c : Nat} {z4a : Option Addr} {z4n z4c : Nat} {z6a : Option Addr} {z6n z6c : Nat} {z20 z21 : Int} {H3 : AHeap} (h1 : x21 < x20) (h2 : aindexAddr cfg.P 34 (Value.slice x4a x4n x4c) (Value.int .i64 x21) = some (Value.pointer (some ⟨x27p, x27o, some x27l⟩))) (h3 : getCells H x27p x27l x27o 1 = some [Value.int .i64 x28]) (h4 : aindexAddr cfg.P 34 (Value.slice x4a x4n x4c) (Value.int .i64 x21) = some (Value.pointer (some ⟨x32p, x32o, some x32l⟩))) (h5 : getCells H x32p x32l x32o 1 = some [Value.int .i64 x33]) (h6 : aindexAddr cfg.P 46 (Value.slice x6a x6n x6c) (Value.int .i64 x33) = some (Value.pointer (some ⟨x34p, x34o, some x34l⟩))) (h7 : getCells H x34p x34l x34o 8 = some x35.toList) (h8 : aindexAddr cfg.P 34 (Value.slice x4a x4n x4c) (Value.int .i64 x21) = some (Value.pointer (some ⟨x38p, x38o, some x38l⟩))) (h9 : getCells H x38p x38l x38o 1 = some [Value.int .i64 x39]) (h10 : callInf cfg 38 [Value.agg x35, Value.int .i64 x39] (List.length H0) H = some (Value.agg x40, H)) (h11 : aindexAddr cfg.P 46 (Value.slice x6a x6n x6c) (Value.int .i64 x28) = some (Value.pointer (some ⟨x41p, x41o, some x41l⟩))) (h12 : x40.toList.length = 8) (h13 : setCells H (List.length H0) x41p x41l x41o x40.toList = some H2) (h14 : lpInf (lpOf cfg a40 1 prot H0) ([Value.slice x0a x0n x0c, Value.slice x3a x3n x3c, Value.slice x4a x4n x4c, Value.slice x6a x6n x6c, Value.int .i64 x21, Value.int .i64 x20, Value.int .i64 x21, Value.int .i64 (↑x0n : Int), Value.int .i64 0], H2) = some (Ex.exit 2, [Value.slice z0a z0n z0c, Value.slice z3a z3n z3c, Value.slice z4a z4n z4c, Value.slice z6a z6n z6c, Value.int .i64 z20, Value.int .i64 z21], H3)) (h15 : Fit .i64 (z21 + 1)) : lpOf cfg a40 0 prot H0 ([.slice x0a x0n x0c, .slice x3a x3n x3c, .slice x4a x4n x4c, .slice x6a x6n x6c, .int .i64 x20, .int .i64 x21], H) = some (Sum.inl ([Value.slice z0a z0n z0c, Value.slice z3a z3n z3c, Value.slice z4a z4n z4c, Value.slice z6a z6n z6c, Value.int .i64 z20, Value.int .i64 (z21 + 1)], H3)) :=
  lp_of2 [.e, .b true, .v (.pointer (some ⟨x27p, x27o, some x27l⟩)), .v (.int .i64 x28), .v (.pointer (some ⟨x32p, x32o, some x32l⟩)), .v (.int .i64 x33), .v (.pointer (some ⟨x34p, x34o, some x34l⟩)), .v (.agg x35), .v (.pointer (some ⟨x38p, x38o, some x38l⟩)), .v (.int .i64 x39), .v (.agg x40), .v (.pointer (some ⟨x41p, x41o, some x41l⟩)), .h H2, .e, .lo (.exit 2, [.slice z0a z0n z0c, .slice z3a z3n z3c, .slice z4a z4n z4c, .slice z6a z6n z6c, .int .i64 z20, .int .i64 z21], H3), .e] (ai (decide_eq_true h1) (ai h2 (ai h3 (ai h4 (ai h5 (ai h6 (ai h7 (ai h8 (ai h9 (ai h10 (ai h11 (ai h12 (ai h13 (ai h14 (ai h15 (Eq.refl (Sum.inl ([Value.slice z0a z0n z0c, Value.slice z3a z3n z3c, Value.slice z4a z4n z4c, Value.slice z6a z6n z6c, Value.int .i64 z20, Value.int .i64 (z21 + 1)], H3) : LS ⊕ LO))))))))))))))))) (by kernel_rfl)
theorem f40_L0_1 {x0a : Option Addr} {x0n x0c : Nat} {x3a : Option Addr} {x3n x3c : Nat} {x4a : Option Addr} {x4n x4c : Nat} {x6a : Option Addr} {x6n x6c : Nat} {x20 x21 : Int} {H0 : AHeap} {prot : Nat} {H : AHeap} (h1 : ¬(x21 < x20)) : lpOf cfg a40 0 prot H0 ([.slice x0a x0n x0c, .slice x3a x3n x3c, .slice x4a x4n x4c, .slice x6a x6n x6c, .int .i64 x20, .int .i64 x21], H) = some (Sum.inr (Ex.exit 0, [Value.slice x6a x6n x6c], H)) :=
  lp_of2 [.e, .b false] (ai (decide_eq_false h1) (Eq.refl (Sum.inr (Ex.exit 0, [Value.slice x6a x6n x6c], H) : LS ⊕ LO))) (by kernel_rfl)
theorem f40_L1_0 {x0a : Option Addr} {x0n x0c : Nat} {x3a : Option Addr} {x3n x3c : Nat} {x4a : Option Addr} {x4n x4c : Nat} {x6a : Option Addr} {x6n x6c : Nat} {x7 x20 x21 x43 x44 : Int} {H0 : AHeap} {prot : Nat} {H : AHeap} {x49p x49o x49l x50p x50o x50l : Nat} {x54 : Bool} {x58p x58o x58l : Nat} {x59 : Int} {x63p x63o x63l : Nat} {x64 : Int} {x65p x65o x65l : Nat} {x66 : Array Value} {x69p x69o x69l : Nat} {x70 : Int} {x71 : Array Value} {x72p x72o x72l : Nat} {H2 : AHeap} (h1 : x44 < x43) (h2 : aindexAddr cfg.P 65 (Value.slice x3a x3n x3c) (Value.int .i64 x7) = some (Value.pointer (some ⟨x49p, x49o, some x49l⟩))) (h3 : getCells H x49p x49l x49o 1 = some [Value.pointer (some ⟨x50p, x50o, some x50l⟩)]) (h4 : 0 ≤ x44) (h5 : x44 < (↑512 : Int)) (h6 : getCells H x50p x50l (x50o + x44.toNat * 1) 1 = some [Value.bool x54]) (h7 : x54 = true) (h8 : aindexAddr cfg.P 34 (Value.slice x4a x4n x4c) (Value.int .i64 x7) = some (Value.pointer (some ⟨x58p, x58o, some x58l⟩))) (h9 : getCells H x58p x58l x58o 1 = some [Value.int .i64 x59]) (h10 : aindexAddr cfg.P 34 (Value.slice x4a x4n x4c) (Value.int .i64 x7) = some (Value.pointer (some ⟨x63p, x63o, some x63l⟩))) (h11 : getCells H x63p x63l x63o 1 = some [Value.int .i64 x64]) (h12 : aindexAddr cfg.P 46 (Value.slice x6a x6n x6c) (Value.int .i64 x64) = some (Value.pointer (some ⟨x65p, x65o, some x65l⟩))) (h13 : getCells H x65p x65l x65o 8 = some x66.toList) (h14 : aindexAddr cfg.P 34 (Value.slice x4a x4n x4c) (Value.int .i64 x44) = some (Value.pointer (some ⟨x69p, x69o, some x69l⟩))) (h15 : getCells H x69p x69l x69o 1 = some [Value.int .i64 x70]) (h16 : callInf cfg 38 [Value.agg x66, Value.int .i64 x70] (List.length H0) H = some (Value.agg x71, H)) (h17 : aindexAddr cfg.P 46 (Value.slice x6a x6n x6c) (Value.int .i64 x59) = some (Value.pointer (some ⟨x72p, x72o, some x72l⟩))) (h18 : x71.toList.length = 8) (h19 : setCells H (List.length H0) x72p x72l x72o x71.toList = some H2) (h20 : Fit .i64 (x44 + 1)) : lpOf cfg a40 1 prot H0 ([.slice x0a x0n x0c, .slice x3a x3n x3c, .slice x4a x4n x4c, .slice x6a x6n x6c, .int .i64 x7, .int .i64 x20, .int .i64 x21, .int .i64 x43, .int .i64 x44], H) = some (Sum.inl ([Value.slice x0a x0n x0c, Value.slice x3a x3n x3c, Value.slice x4a x4n x4c, Value.slice x6a x6n x6c, Value.int .i64 x7, Value.int .i64 x20, Value.int .i64 x21, Value.int .i64 x43, Value.int .i64 (x44 + 1)], H2)) :=
  lp_of2 [.e, .b true, .v (.pointer (some ⟨x49p, x49o, some x49l⟩)), .v (.pointer (some ⟨x50p, x50o, some x50l⟩)), .e, .v (.bool x54), .b true, .v (.pointer (some ⟨x58p, x58o, some x58l⟩)), .v (.int .i64 x59), .v (.pointer (some ⟨x63p, x63o, some x63l⟩)), .v (.int .i64 x64), .v (.pointer (some ⟨x65p, x65o, some x65l⟩)), .v (.agg x66), .v (.pointer (some ⟨x69p, x69o, some x69l⟩)), .v (.int .i64 x70), .v (.agg x71), .v (.pointer (some ⟨x72p, x72o, some x72l⟩)), .h H2, .e] (ai (decide_eq_true h1) (ai h2 (ai h3 (ai h4 (ai h5 (ai h6 (ai h7 (ai h8 (ai h9 (ai h10 (ai h11 (ai h12 (ai h13 (ai h14 (ai h15 (ai h16 (ai h17 (ai h18 (ai h19 (ai h20 (Eq.refl (Sum.inl ([Value.slice x0a x0n x0c, Value.slice x3a x3n x3c, Value.slice x4a x4n x4c, Value.slice x6a x6n x6c, Value.int .i64 x7, Value.int .i64 x20, Value.int .i64 x21, Value.int .i64 x43, Value.int .i64 (x44 + 1)], H2) : LS ⊕ LO)))))))))))))))))))))) (by kernel_rfl)
theorem f40_L1_1 {x0a : Option Addr} {x0n x0c : Nat} {x3a : Option Addr} {x3n x3c : Nat} {x4a : Option Addr} {x4n x4c : Nat} {x6a : Option Addr} {x6n x6c : Nat} {x7 x20 x21 x43 x44 : Int} {H0 : AHeap} {prot : Nat} {H : AHeap} {x49p x49o x49l x50p x50o x50l : Nat} {x54 : Bool} (h1 : x44 < x43) (h2 : aindexAddr cfg.P 65 (Value.slice x3a x3n x3c) (Value.int .i64 x7) = some (Value.pointer (some ⟨x49p, x49o, some x49l⟩))) (h3 : getCells H x49p x49l x49o 1 = some [Value.pointer (some ⟨x50p, x50o, some x50l⟩)]) (h4 : 0 ≤ x44) (h5 : x44 < (↑512 : Int)) (h6 : getCells H x50p x50l (x50o + x44.toNat * 1) 1 = some [Value.bool x54]) (h7 : x54 = false) (h8 : Fit .i64 (x44 + 1)) : lpOf cfg a40 1 prot H0 ([.slice x0a x0n x0c, .slice x3a x3n x3c, .slice x4a x4n x4c, .slice x6a x6n x6c, .int .i64 x7, .int .i64 x20, .int .i64 x21, .int .i64 x43, .int .i64 x44], H) = some (Sum.inl ([Value.slice x0a x0n x0c, Value.slice x3a x3n x3c, Value.slice x4a x4n x4c, Value.slice x6a x6n x6c, Value.int .i64 x7, Value.int .i64 x20, Value.int .i64 x21, Value.int .i64 x43, Value.int .i64 (x44 + 1)], H)) :=
  lp_of2 [.e, .b true, .v (.pointer (some ⟨x49p, x49o, some x49l⟩)), .v (.pointer (some ⟨x50p, x50o, some x50l⟩)), .e, .v (.bool x54), .b false, .e] (ai (decide_eq_true h1) (ai h2 (ai h3 (ai h4 (ai h5 (ai h6 (ai h7 (ai h8 (Eq.refl (Sum.inl ([Value.slice x0a x0n x0c, Value.slice x3a x3n x3c, Value.slice x4a x4n x4c, Value.slice x6a x6n x6c, Value.int .i64 x7, Value.int .i64 x20, Value.int .i64 x21, Value.int .i64 x43, Value.int .i64 (x44 + 1)], H) : LS ⊕ LO)))))))))) (by kernel_rfl)
theorem f40_L1_2 {x0a : Option Addr} {x0n x0c : Nat} {x3a : Option Addr} {x3n x3c : Nat} {x4a : Option Addr} {x4n x4c : Nat} {x6a : Option Addr} {x6n x6c : Nat} {x7 x20 x21 x43 x44 : Int} {H0 : AHeap} {prot : Nat} {H : AHeap} (h1 : ¬(x44 < x43)) : lpOf cfg a40 1 prot H0 ([.slice x0a x0n x0c, .slice x3a x3n x3c, .slice x4a x4n x4c, .slice x6a x6n x6c, .int .i64 x7, .int .i64 x20, .int .i64 x21, .int .i64 x43, .int .i64 x44], H) = some (Sum.inr (Ex.exit 2, [Value.slice x0a x0n x0c, Value.slice x3a x3n x3c, Value.slice x4a x4n x4c, Value.slice x6a x6n x6c, Value.int .i64 x20, Value.int .i64 x21], H)) :=
  lp_of2 [.e, .b false] (ai (decide_eq_false h1) (Eq.refl (Sum.inr (Ex.exit 2, [Value.slice x0a x0n x0c, Value.slice x3a x3n x3c, Value.slice x4a x4n x4c, Value.slice x6a x6n x6c, Value.int .i64 x20, Value.int .i64 x21], H) : LS ⊕ LO))) (by kernel_rfl)
end Go.Proofs.Ytkemihfaohkoeaa.Am11
set_option linter.unusedVariables false
open Go Go.Proofs.Ytkemihfaohkoeaa.Am
namespace Go.Proofs.Ytkemihfaohkoeaa.Am11
theorem f22_F_0 {x0a : Option Addr} {x0n x0c : Nat} {H : AHeap} {prot : Nat} {x6 : Int} (h1 : callInf cfg 25 [Value.slice x0a x0n x0c] (List.length H) H = some (Value.int .i64 x6, H)) (h2 : (x6 != 0) = true) : callInf cfg 22 [.slice x0a x0n x0c] prot H = some (Value.tuple { toList := [Value.slice none 0 0, Value.int .i64 x6] }, H) :=
  fn_of2 a22 [.v (.int .i64 x6), .e, .b true] (ai h1 (ai h2 (Eq.refl ((Value.tuple { toList := [Value.slice none 0 0, Value.int .i64 x6] }, H) : Value × AHeap)))) (by kernel_rfl) rfl
theorem f22_F_1 {x0a : Option Addr} {x0n x0c : Nat} {H : AHeap} {prot : Nat} {x6 : Int} {x11a : Option Addr} {x11n x11c : Nat} {H1 : AHeap} (rv : Value) (rH : AHeap) (h1 : callInf cfg 25 [Value.slice x0a x0n x0c] (List.length H) H = some (Value.int .i64 x6, H)) (h2 : (x6 != 0) = false) (h3 : callInf cfg 40 [Value.slice x0a x0n x0c] (List.length H) H = some (Value.slice x11a x11n x11c, H1)) (h4 : pfin a22 H [Value.slice x11a x11n x11c, Value.int .i64 0] H1 = (rv, rH)) : callInf cfg 22 [.slice x0a x0n x0c] prot H = some (rv, rH) :=
  fn_of2 a22 [.v (.int .i64 x6), .e, .b false, .r (.slice x11a x11n x11c) H1] (ai h1 (ai h2 (ai h3 h4))) (by kernel_rfl) rfl
end Go.Proofs.Ytkemihfaohkoeaa.Am11
namespace Go.Proofs.Ytkemihfaohkoeaa.Am11
open Go Go.Proofs.Ytkemihfaohkoeaa.Am
theorem T46 : ElemT cfg.P 46 39 8 64 := ⟨by kernel_rfl, by kernel_rfl, by kernel_rfl, ⟨.agg #[.int .u64 0, .int .u64 0, .int .u64 0, .int .u64 0, .int .u64 0, .int .u64 0, .int .u64 0, .int .u64 0], by kernel_rfl, rfl⟩, by kernel_rfl, by omega, by omega⟩
theorem comp_get {G : List (List Int)} {v : Nat} (hv : v < G.length) : (il (nl (comp G).1))[v]? = some (.int .i64 ((Lc G v : Nat) : Int)) := by
  have hl := (comp_ok G).l
  unfold il nl Lc
  rw [List.getElem?_map, List.getElem?_map, List.getElem?_eq_getElem (by omega), List.getD_eq_getElem?_getD, List.getElem?_eq_getElem (by omega)]
  rfl
/-- One set is read; one is written. -/
theorem sets_at {H : AHeap} {x : Value} {o n : Nat} {A : Nat → Nat → Bool} (h : Own H 39 8 x (some o) n (sets A n)) {k : Nat} (hk : k < n) :
    aindexAddr cfg.P 46 x (.int .i64 (k : Nat)) = some (.pointer (some ⟨o, k * 8, some (sets A n).length⟩)) ∧ getCells H o (sets A n).length (k * 8) 8 = some (setA (A k)).toList := by
  obtain ⟨id, e, a, b⟩ := own_atS T46 h hk
  cases e
  have := b 0 8 (Nat.le_refl _)
  rw [Nat.add_zero, sets_get A n hk] at this
  exact ⟨a, this⟩
theorem sets_set {H : AHeap} {x : Value} {o n : Nat} {A : Nat → Nat → Bool} (h : Own H 39 8 x (some o) n (sets A n)) {k : Nat} (hk : k < n) (T : Nat → Bool) {prot : Nat} (hp : prot ≤ o) :
    ∃ H', setCells H prot o (sets A n).length (k * 8) (setA T).toList = some H' ∧ Own H' 39 8 x (some o) n (sets (fun c => if c = k then T else A c) n) ∧ Stay (some o) H H' := by
  obtain ⟨id, H', e, a, b, c, d, _⟩ := own_setS T46 h hk (j := 0) (vs := setL T) (by rw [setL_len]; omega) (setL_cell T) (prot := prot) (fun id e => by cases e; exact hp)
  cases e
  rw [sets_put A T n hk] at c
  exact ⟨H', b, c, d⟩

theorem loop40i {G : List (List Int)} (hG : Good G) {G0 : AHeap} {x0 x3 x4 x6 : Value} (hx0 : ∃ a c, x0 = .slice a G.length c) (hw : WL G G0 x3) (hx3 : ∃ a c, x3 = .slice a G.length c) (h4 : Rd G0 3 1 x4 G.length (il (nl (comp G).1))) {o : Nat} (ho : G0.length ≤ o) {H0 : AHeap} (hp : H0.length ≤ o) {prot : Nat} {p q : Int} {v : Nat} (hv : v < G.length) {B : Nat → Nat → Prop} : ∀ (d i : Nat) (A : Nat → Nat → Bool) (H : AHeap), i + d = G.length → Stay none G0 H → Own H 39 8 x6 (some o) (comp G).2 (sets A (comp G).2) →
    (∀ c e, A c e = true ↔ B c e ∨ (c = Lc G v ∧ ∃ u, u < i ∧ Rch G v u ∧ e = Lc G u)) →
    ∃ A' H', lpInf (lpOf cfg a40 1 prot H0) ([x0, x3, x4, x6, .int .i64 v, .int .i64 p, .int .i64 q, .int .i64 G.length, .int .i64 i], H) = some (.exit 2, [x0, x3, x4, x6, .int .i64 p, .int .i64 q], H') ∧ Own H' 39 8 x6 (some o) (comp G).2 (sets A' (comp G).2) ∧
      (∀ c e, A' c e = true ↔ B c e ∨ (c = Lc G v ∧ ∃ u, u < G.length ∧ Rch G v u ∧ e = Lc G u)) ∧ Stay (some o) H H'
  | 0, i, A, H, hi, hst, hx, hA => by
    have he : i = G.length := by omega
    subst he
    refine ⟨A, H, ?_, hx, hA, Stay.refl _ _⟩
    obtain ⟨_, _, rfl⟩ := hx0
    obtain ⟨_, _, rfl⟩ := hx3
    obtain ⟨_, _, rfl⟩ := h4.len
    obtain ⟨_, _, rfl⟩ := hx.len
    exact lp_last (f40_L1_2 (by omega))
  | d + 1, i, A, H, hi, hst, hx, hA => by
    have h512 := hG.1
    have hil : i < G.length := by omega
    have hn := comp_n G
    obtain ⟨id, L, p1, b, a1, a2, a3, a4⟩ := (hw.stay hst).at hv (show i < 512 by omega)
    have fi : Fit .i64 ((i : Int) + 1) := fit64 (by omega) (by omega)
    have hk := Lc_lt hv
    have hk2 := Lc_lt hil
    cases hbv : b with
    | true =>
      rw [hbv] at a3 a4
      obtain ⟨i2, L2, b1, b2⟩ := rd_at T34 (h4.stay hst) (comp_get hv)
      obtain ⟨i3, L3, c1, c2⟩ := rd_at T34 (h4.stay hst) (comp_get hil)
      obtain ⟨d1, d2⟩ := sets_at hx hk
      have h38 := c38 (S := A (Lc G v)) (show Lc G i < 512 by omega) H0.length H
      obtain ⟨H2, e1, e2, e3⟩ := sets_set hx hk (addS (A (Lc G v)) (Lc G i)) hp
      obtain ⟨A', H', z1, z2, z3, z4⟩ := loop40i hG hx0 hw hx3 h4 ho hp (prot := prot) (p := p) (q := q) hv (B := B) d (i + 1) _ H2 (by omega) (hst.over e3 (fun id e => by cases e; exact ho)) e2 (fun c e => by
        have hr := a4.1 rfl
        by_cases hc : c = Lc G v
        · subst hc
          rw [if_pos rfl]
          unfold addS
          rw [Bool.or_eq_true, decide_eq_true_eq, hA]
          constructor
          · rintro ((h | ⟨_, u, h1, h2, h3⟩) | h)
            · exact .inl h
            · exact .inr ⟨rfl, u, by omega, h2, h3⟩
            · exact .inr ⟨rfl, i, by omega, hr, h⟩
          · rintro (h | ⟨_, u, h1, h2, h3⟩)
            · exact .inl (.inl h)
            · by_cases e0 : u = i
              · subst e0; exact .inr h3
              · exact .inl (.inr ⟨rfl, u, by omega, h2, h3⟩)
        · rw [if_neg hc, hA]
          simp [hc])
      refine ⟨A', H', ?_, z2, z3, e3.trans z4⟩
      obtain ⟨_, _, rfl⟩ := hx0
      obtain ⟨_, _, rfl⟩ := hx3
      obtain ⟨_, _, rfl⟩ := h4.len
      obtain ⟨_, _, rfl⟩ := hx.len
      exact lp_next (f40_L1_0 (x66 := setA (A (Lc G v))) (x71 := setA (addS (A (Lc G v)) (Lc G i))) (by omega) a1 a2 (by omega) (by omega) a3 rfl b1 b2 b1 b2 d1 d2 c1 c2 h38 d1 (setL_len _) e1 fi) z1
    | false =>
      rw [hbv] at a3 a4
      obtain ⟨A', H', z1, z2, z3, z4⟩ := loop40i hG hx0 hw hx3 h4 ho hp (prot := prot) (p := p) (q := q) hv (B := B) d (i + 1) A H (by omega) hst hx (fun c e => by
        have hr : ¬ Rch G v i := fun h => by have := a4.2 h; cases this
        rw [hA]
        constructor
        · rintro (h | ⟨h0, u, h1, h2, h3⟩)
          · exact .inl h
          · exact .inr ⟨h0, u, by omega, h2, h3⟩
        · rintro (h | ⟨h0, u, h1, h2, h3⟩)
          · exact .inl h
          · by_cases e0 : u = i
            · subst e0; exact absurd h2 hr
            · exact .inr ⟨h0, u, by omega, h2, h3⟩)
      refine ⟨A', H', ?_, z2, z3, z4⟩
      obtain ⟨_, _, rfl⟩ := hx0
      obtain ⟨_, _, rfl⟩ := hx3
      obtain ⟨_, _, rfl⟩ := h4.len
      obtain ⟨_, _, rfl⟩ := hx.len
      exact lp_next (f40_L1_1 (by omega) a1 a2 (by omega) (by omega) a3 rfl fi) z1

/-- What the first vertices' components reach. -/
def AbvTo (G : List (List Int)) (v c d : Nat) : Prop := ∃ w u, w < v ∧ u < G.length ∧ Lc G w = c ∧ Lc G u = d ∧ RQ G w u
theorem loop40o {G : List (List Int)} (hG : Good G) {G0 : AHeap} {x0 x3 x4 x6 : Value} (hx0 : ∃ a c, x0 = .slice a G.length c) (hw : WL G G0 x3) (hx3 : ∃ a c, x3 = .slice a G.length c) (h4 : Rd G0 3 1 x4 G.length (il (nl (comp G).1))) {o : Nat} (ho : G0.length ≤ o) {H0 : AHeap} (hp : H0.length ≤ o) {prot : Nat} : ∀ (d v : Nat) (A : Nat → Nat → Bool) (H : AHeap), v + d = G.length → Stay none G0 H → Own H 39 8 x6 (some o) (comp G).2 (sets A (comp G).2) → (∀ c e, A c e = true ↔ AbvTo G v c e) →
    ∃ A' H', lpInf (lpOf cfg a40 0 prot H0) ([x0, x3, x4, x6, .int .i64 G.length, .int .i64 v], H) = some (.exit 0, [x6], H') ∧ Own H' 39 8 x6 (some o) (comp G).2 (sets A' (comp G).2) ∧ (∀ c e, A' c e = true ↔ AbvTo G G.length c e) ∧ Stay (some o) H H'
  | 0, v, A, H, hi, hst, hx, hA => by
    have he : v = G.length := by omega
    subst he
    refine ⟨A, H, ?_, hx, hA, Stay.refl _ _⟩
    obtain ⟨_, _, rfl⟩ := hx0
    obtain ⟨_, _, rfl⟩ := hx3
    obtain ⟨_, _, rfl⟩ := h4.len
    obtain ⟨_, _, rfl⟩ := hx.len
    exact lp_last (f40_L0_1 (by omega))
  | d + 1, v, A, H, hi, hst, hx, hA => by
    have h512 := hG.1
    have hv : v < G.length := by omega
    have hn := comp_n G
    have hk := Lc_lt hv
    obtain ⟨i2, L2, b1, b2⟩ := rd_at T34 (h4.stay hst) (comp_get hv)
    obtain ⟨d1, d2⟩ := sets_at hx hk
    have h38 := c38 (S := A (Lc G v)) (show Lc G v < 512 by omega) H0.length H
    obtain ⟨H2, e1, e2, e3⟩ := sets_set hx hk (addS (A (Lc G v)) (Lc G v)) hp
    have hst2 := hst.over e3 (fun id e => by cases e; exact ho)
    obtain ⟨A1, H3, y1, y2, y3, y4⟩ := loop40i hG hx0 hw hx3 h4 ho hp (prot := prot) (p := (G.length : Int)) (q := (v : Int)) hv (B := fun c e => AbvTo G v c e ∨ (c = Lc G v ∧ e = Lc G v)) G.length 0 _ H2 (by omega) hst2 e2 (fun c e => by
      by_cases hc : c = Lc G v
      · subst hc
        rw [if_pos rfl]
        unfold addS
        rw [Bool.or_eq_true, decide_eq_true_eq, hA]
        simp
      · rw [if_neg hc, hA]
        simp [hc])
    obtain ⟨A', H', z1, z2, z3, z4⟩ := loop40o hG hx0 hw hx3 h4 ho hp (prot := prot) d (v + 1) A1 H3 (by omega) (hst2.over y4 (fun id e => by cases e; exact ho)) y2 (fun c e => by
      rw [y3]
      constructor
      · rintro ((⟨w, u, h1, h2, h3, h4, h5⟩ | ⟨rfl, rfl⟩) | ⟨rfl, u, h1, h2, rfl⟩)
        · exact ⟨w, u, by omega, h2, h3, h4, h5⟩
        · exact ⟨v, v, by omega, hv, rfl, rfl, .inl rfl⟩
        · exact ⟨v, u, by omega, h1, rfl, rfl, .inr h2⟩
      · rintro ⟨w, u, h1, h2, h3, h4, h5⟩
        by_cases e0 : w = v
        · subst e0
          rcases h5 with rfl | h5
          · exact .inl (.inr ⟨h3.symm, h4.symm⟩)
          · exact .inr ⟨h3.symm, u, h2, h5, h4.symm⟩
        · exact .inl (.inl ⟨w, u, by omega, h2, h3, h4, h5⟩))
    refine ⟨A', H', ?_, z2, z3, (e3.trans y4).trans z4⟩
    obtain ⟨_, _, rfl⟩ := hx0
    obtain ⟨_, _, rfl⟩ := hx3
    obtain ⟨_, _, rfl⟩ := h4.len
    obtain ⟨_, _, rfl⟩ := hx.len
    exact lp_next (f40_L0_0 (x35 := setA (A (Lc G v))) (x40 := setA (addS (A (Lc G v)) (Lc G v))) (by omega) b1 b2 b1 b2 d1 d2 b1 b2 h38 d1 (setL_len _) e1 y1 (fit64 (by omega) (by omega))) z1

theorem c40 {G : List (List Int)} (hG : Good G) {vG : Value} (prot : Nat) {H : AHeap} (hg : Gr H vG G) : ∃ x' H', callInf cfg 40 [vG] prot H = some (x', H') ∧ OwnS H' 39 8 x' (comp G).2 (sets (abv G) (comp G).2) H.length ∧ Stay none H H' := by
  have h5 := hG.1
  have hn := comp_n G
  obtain ⟨a, c, H1, w1, w2, w3⟩ := c37 hG H.length hg
  obtain ⟨y, H2, n1, n2, n3, n4⟩ := c36 hG H.length (hg.stay w3) w2 ⟨a, c, rfl⟩
  obtain ⟨z8, hz8⟩ : ∃ z8 : List Value, z8 = [.int .u64 0, .int .u64 0, .int .u64 0, .int .u64 0, .int .u64 0, .int .u64 0, .int .u64 0, .int .u64 0] := ⟨_, rfl⟩
  have hz : z8 = List.replicate 8 (.int .u64 0) := by rw [hz8]; rfl
  obtain ⟨H3, hH3⟩ : ∃ H3, H3 = H2 ++ [AObj.cells (repCells z8 (comp G).2) 39 (repCells z8 (comp G).2).length .row] := ⟨_, rfl⟩
  have s3 : Stay none H2 H3 := by rw [hH3]; exact Stay.app none H2 _
  have hlen : H.length ≤ H2.length := Nat.le_trans w3.1 n4.1
  obtain ⟨ax, cx, hye⟩ := n2.rd.len
  have key : ∃ x6 H4, lpInf (lpOf cfg a40 0 prot H) ([vG, .slice a G.length c, y, .slice (some ⟨H2.length, 0, some ((comp G).2 * 8)⟩) (comp G).2 (comp G).2, .int .i64 G.length, .int .i64 0], H3) = some (.exit 0, [x6], H4) ∧ OwnS H4 39 8 x6 (comp G).2 (sets (abv G) (comp G).2) H.length := by
    by_cases h0 : 0 < (comp G).2
    · have m : Own H3 39 8 (.slice (some ⟨H2.length, 0, some ((comp G).2 * 8)⟩) (comp G).2 (comp G).2) (some H2.length) (comp G).2 (sets (fun _ => noS) (comp G).2) := by
        rw [sets_no, ← hz, hH3]
        have hl : (repCells z8 (comp G).2).length = (comp G).2 * 8 := by rw [hz, ← sets_no, sets_len]
        exact own_new hl h0 hl.symm rfl
      obtain ⟨A', H4, z1, z2, z3, z4⟩ := loop40o hG hg.len (w2.stay n4) ⟨a, c, rfl⟩ n2.rd (Nat.le_refl _) (H0 := H) hlen (prot := prot) G.length 0 _ H3 (by omega) s3 m (fun c e => by
        constructor
        · intro h; cases h
        · rintro ⟨w, u, h1, _⟩; omega)
      refine ⟨_, H4, z1, .inl ⟨some H2.length, ?_, fun id e => by cases e; exact hlen⟩⟩
      rw [sets_congr (A := abv G) (B := A') _ (fun c _ i _ => by rw [Bool.eq_iff_iff, abv_iff, z3]; rfl)]
      exact z2
    · have hn0 : (comp G).2 = 0 := by omega
      have hG0 : G = [] := List.eq_nil_of_length_eq_zero (by
        rcases Nat.eq_zero_or_pos G.length with h | h
        · exact h
        · have := Lc_lt h; omega)
      rw [hn0] at hH3 ⊢
      subst hG0
      obtain ⟨aG, cG, rfl⟩ := hg.len
      subst hye
      refine ⟨_, H3, lp_last (f40_L0_1 (by decide)), .inr ⟨rfl, rfl, H2.length, rfl, hlen, ?_⟩⟩
      rw [hH3]
      exact append_get.1
  obtain ⟨x6, H4, z1, z2⟩ := key
  obtain ⟨x', H', g1, g2, g3⟩ := gcS z2 (sets_plain _ _) (ps := []) rfl
  refine ⟨x', H', ?_, g2, g3⟩
  obtain ⟨aG, cG, rfl⟩ := hg.len
  subst hye
  obtain ⟨_, _, rfl⟩ := z2.rd.len
  subst hH3; subst hz8
  exact f40_F_0 _ _ w1 n1 (by omega) rfl (by omega) (by omega) z1 (by rw [pfin_eq, if_neg (by simp [a40])]; exact g1)

theorem c22 {G : List (List Int)} (hs : Short G) {vG : Value} (prot : Nat) {H : AHeap} (hg : Gr H vG G) :
    (chk G ≠ 0 ∧ callInf cfg 22 [vG] prot H = some (.tuple #[.slice none 0 0, .int .i64 (chk G)], H)) ∨
    (chk G = 0 ∧ ∃ x' H', callInf cfg 22 [vG] prot H = some (.tuple #[x', .int .i64 0], H') ∧ OwnS H' 39 8 x' (comp G).2 (sets (abv G) (comp G).2) H.length ∧ Stay none H H') := by
  have h25 := c25 hs H.length hg
  have hgl := hg.len
  by_cases h : chk G = 0
  · refine .inr ⟨h, ?_⟩
    have hG := good_of hs h
    obtain ⟨y, H1, w1, w2, w3⟩ := c40 hG H.length hg
    obtain ⟨x', H', g1, g2, g3⟩ := gcS (H := H) w2 (sets_plain _ _) (ps := [.int .i64 0]) rfl
    refine ⟨x', H', ?_, g2, g3⟩
    obtain ⟨aG, cG, rfl⟩ := hgl
    obtain ⟨ay, cy, rfl⟩ := w2.rd.len
    exact f22_F_1 _ _ h25 (by simp [h]) w1 (by rw [pfin_eq, if_neg (by simp [a22])]; exact g1)
  · refine .inl ⟨h, ?_⟩
    obtain ⟨aG, cG, rfl⟩ := hgl
    exact f22_F_0 h25 (by simpa using h)
end Go.Proofs.Ytkemihfaohkoeaa.Am11
set_option linter.unusedVariables false
open Go Go.Proofs.Ytkemihfaohkoeaa.Am
namespace Go.Proofs.Ytkemihfaohkoeaa.Am11
theorem f42_F_0 {x0a : Option Addr} {x0n x0c : Nat} {H : AHeap} {prot : Nat} {z3a : Option Addr} {z3n z3c : Nat} {H1 : AHeap} (rv : Value) (rH : AHeap) (h1 : lpInf (lpOf cfg a42 0 prot H) ([Value.slice x0a x0n x0c, Value.slice none 0 0, Value.int .i64 0], H) = some (Ex.exit 0, [Value.slice z3a z3n z3c], H1)) (h2 : pfin a42 H [Value.slice z3a z3n z3c] H1 = (rv, rH)) : callInf cfg 42 [.slice x0a x0n x0c] prot H = some (rv, rH) :=
  fn_of2 a42 [.lo (.exit 0, [.slice z3a z3n z3c], H1)] (ai h1 h2) (by kernel_rfl) rfl
theorem f42_L0_0 {x0a : Option Addr} {x0n x0c : Nat} {x3a : Option Addr} {x3n x3c : Nat} {x4 : Int} {H0 : AHeap} {prot : Nat} {H : AHeap} {x15 : Array Value} {x16a : Option Addr} {x16n x16c : Nat} {H2 : AHeap} {x17a : Option Addr} {x17n x17c : Nat} {H3 : AHeap} (h1 : x4 < (↑x0n : Int)) (h2 : callInf cfg 44 [Value.slice x0a x0n x0c, Value.slice (some ⟨List.length H, 0, some (1 * 1)⟩) 1 1] (List.length H0) (H ++ [wo [Value.int .i64 x4] 3]) = some (Value.agg x15, H ++ [wo [Value.int .i64 x4] 3])) (h3 : abuildSlice cfg.P 46 1 [(0, Value.agg x15)] (H ++ [wo [Value.int .i64 x4] 3]) = some (Value.slice x16a x16n x16c, H2)) (h4 : aappend cfg.P (List.length H0) true 46 46 (Value.slice x3a x3n x3c) (Value.slice x16a x16n x16c) H2 = some (Value.slice x17a x17n x17c, H3)) (h5 : Fit .i64 (x4 + 1)) : lpOf cfg a42 0 prot H0 ([.slice x0a x0n x0c, .slice x3a x3n x3c, .int .i64 x4], H) = some (Sum.inl ([Value.slice x0a x0n x0c, Value.slice x17a x17n x17c, Value.int .i64 (x4 + 1)], H3)) :=
  lp_of2 [.e, .e, .b true, .e, .v (.agg x15), .r (.slice x16a x16n x16c) H2, .r (.slice x17a x17n x17c) H3, .e] (ai (decide_eq_true h1) (ai h2 (ai h3 (ai h4 (ai h5 (Eq.refl (Sum.inl ([Value.slice x0a x0n x0c, Value.slice x17a x17n x17c, Value.int .i64 (x4 + 1)], H3) : LS ⊕ LO))))))) (by kernel_rfl)
theorem f42_L0_1 {x0a : Option Addr} {x0n x0c : Nat} {x3a : Option Addr} {x3n x3c : Nat} {x4 : Int} {H0 : AHeap} {prot : Nat} {H : AHeap} (h1 : ¬(x4 < (↑x0n : Int))) : lpOf cfg a42 0 prot H0 ([.slice x0a x0n x0c, .slice x3a x3n x3c, .int .i64 x4], H) = some (Sum.inr (Ex.exit 0, [Value.slice x3a x3n x3c], H)) :=
  lp_of2 [.e, .e, .b false] (ai (decide_eq_false h1) (Eq.refl (Sum.inr (Ex.exit 0, [Value.slice x3a x3n x3c], H) : LS ⊕ LO))) (by kernel_rfl)
end Go.Proofs.Ytkemihfaohkoeaa.Am11
set_option linter.unusedVariables false
open Go Go.Proofs.Ytkemihfaohkoeaa.Am
namespace Go.Proofs.Ytkemihfaohkoeaa.Am11
theorem f41_F_0 {x0a : Option Addr} {x0n x0c : Nat} {H : AHeap} {prot : Nat} {z4a : Option Addr} {z4n z4c : Nat} {z5 : Int} {H1 : AHeap} (rv : Value) (rH : AHeap) (h1 : lpInf (lpOf cfg a41 0 prot H) ([Value.slice x0a x0n x0c, Value.slice none 0 0, Value.int .i64 0, Value.int .i64 0], H) = some (Ex.exit 0, [Value.slice z4a z4n z4c, Value.int .i64 z5], H1)) (h2 : pfin a41 H [Value.slice z4a z4n z4c, Value.int .i64 z5] H1 = (rv, rH)) : callInf cfg 41 [.slice x0a x0n x0c] prot H = some (rv, rH) :=
  fn_of2 a41 [.lo (.exit 0, [.slice z4a z4n z4c, .int .i64 z5], H1)] (ai h1 h2) (by kernel_rfl) rfl
theorem f41_L0_0 {x0a : Option Addr} {x0n x0c : Nat} {x4a : Option Addr} {x4n x4c : Nat} {x5 x6 : Int} {H0 : AHeap} {prot : Nat} {H : AHeap} {z0a : Option Addr} {z0n z0c : Nat} {z4a : Option Addr} {z4n z4c : Nat} {z5 z6 z7 : Int} {H2 : AHeap} {x50a : Option Addr} {x50n x50c : Nat} {H3 : AHeap} (h1 : x6 < (↑x0n : Int)) (h2 : lpInf (lpOf cfg a41 1 prot H0) ([Value.slice x0a x0n x0c, Value.slice x4a x4n x4c, Value.int .i64 x5, Value.int .i64 x6, Value.int .i64 (-1), Value.int .i64 0], H) = some (Ex.exit 2, [Value.slice z0a z0n z0c, Value.slice z4a z4n z4c, Value.int .i64 z5, Value.int .i64 z6, Value.int .i64 z7], H2)) (h3 : z7 < 0) (h4 : Fit .i64 (z5 + 1)) (h5 : aappend cfg.P (List.length H0) true 34 34 (Value.slice z4a z4n z4c) (Value.slice (some ⟨List.length H2, 0, some (1 * 1)⟩) 1 1) (H2 ++ [wo [Value.int .i64 z5] 3]) = some (Value.slice x50a x50n x50c, H3)) (h6 : Fit .i64 (z6 + 1)) : lpOf cfg a41 0 prot H0 ([.slice x0a x0n x0c, .slice x4a x4n x4c, .int .i64 x5, .int .i64 x6], H) = some (Sum.inl ([Value.slice z0a z0n z0c, Value.slice x50a x50n x50c, Value.int .i64 (z5 + 1), Value.int .i64 (z6 + 1)], H3)) :=
  lp_of2 [.e, .e, .b true, .lo (.exit 2, [.slice z0a z0n z0c, .slice z4a z4n z4c, .int .i64 z5, .int .i64 z6, .int .i64 z7], H2), .e, .b true, .e, .e, .r (.slice x50a x50n x50c) H3, .e] (ai (decide_eq_true h1) (ai h2 (ai (decide_eq_true h3) (ai h4 (ai h5 (ai h6 (Eq.refl (Sum.inl ([Value.slice z0a z0n z0c, Value.slice x50a x50n x50c, Value.int .i64 (z5 + 1), Value.int .i64 (z6 + 1)], H3) : LS ⊕ LO)))))))) (by kernel_rfl)
theorem f41_L0_1 {x0a : Option Addr} {x0n x0c : Nat} {x4a : Option Addr} {x4n x4c : Nat} {x5 x6 : Int} {H0 : AHeap} {prot : Nat} {H : AHeap} {z0a : Option Addr} {z0n z0c : Nat} {z4a : Option Addr} {z4n z4c : Nat} {z5 z6 z7 : Int} {H2 : AHeap} {x50a : Option Addr} {x50n x50c : Nat} {H3 : AHeap} (h1 : x6 < (↑x0n : Int)) (h2 : lpInf (lpOf cfg a41 1 prot H0) ([Value.slice x0a x0n x0c, Value.slice x4a x4n x4c, Value.int .i64 x5, Value.int .i64 x6, Value.int .i64 (-1), Value.int .i64 0], H) = some (Ex.exit 2, [Value.slice z0a z0n z0c, Value.slice z4a z4n z4c, Value.int .i64 z5, Value.int .i64 z6, Value.int .i64 z7], H2)) (h3 : ¬(z7 < 0)) (h4 : aappend cfg.P (List.length H0) true 34 34 (Value.slice z4a z4n z4c) (Value.slice (some ⟨List.length H2, 0, some (1 * 1)⟩) 1 1) (H2 ++ [wo [Value.int .i64 z7] 3]) = some (Value.slice x50a x50n x50c, H3)) (h5 : Fit .i64 (z6 + 1)) : lpOf cfg a41 0 prot H0 ([.slice x0a x0n x0c, .slice x4a x4n x4c, .int .i64 x5, .int .i64 x6], H) = some (Sum.inl ([Value.slice z0a z0n z0c, Value.slice x50a x50n x50c, Value.int .i64 z5, Value.int .i64 (z6 + 1)], H3)) :=
  lp_of2 [.e, .e, .b true, .lo (.exit 2, [.slice z0a z0n z0c, .slice z4a z4n z4c, .int .i64 z5, .int .i64 z6, .int .i64 z7], H2), .e, .b false, .e, .r (.slice x50a x50n x50c) H3, .e] (ai (decide_eq_true h1) (ai h2 (ai (decide_eq_false h3) (ai h4 (ai h5 (Eq.refl (Sum.inl ([Value.slice z0a z0n z0c, Value.slice x50a x50n x50c, Value.int .i64 z5, Value.int .i64 (z6 + 1)], H3) : LS ⊕ LO))))))) (by kernel_rfl)
theorem f41_L0_2 {x0a : Option Addr} {x0n x0c : Nat} {x4a : Option Addr} {x4n x4c : Nat} {x5 x6 : Int} {H0 : AHeap} {prot : Nat} {H : AHeap} (h1 : ¬(x6 < (↑x0n : Int))) : lpOf cfg a41 0 prot H0 ([.slice x0a x0n x0c, .slice x4a x4n x4c, .int .i64 x5, .int .i64 x6], H) = some (Sum.inr (Ex.exit 0, [Value.slice x4a x4n x4c, Value.int .i64 x5], H)) :=
  lp_of2 [.e, .e, .b false] (ai (decide_eq_false h1) (Eq.refl (Sum.inr (Ex.exit 0, [Value.slice x4a x4n x4c, Value.int .i64 x5], H) : LS ⊕ LO))) (by kernel_rfl)
theorem f41_L1_0 {x0a : Option Addr} {x0n x0c : Nat} {x4a : Option Addr} {x4n x4c : Nat} {x5 x6 x7 x8 : Int} {H0 : AHeap} {prot : Nat} {H : AHeap} {x26p x26o x26l : Nat} {x27 : Array Value} {x29 : Bool} {x33p x33o x33l : Nat} {x34 : Array Value} {x36 : Bool} {x40p x40o x40l : Nat} {x41 : Int} (h1 : x8 < x6) (h2 : x7 < 0) (h3 : aindexAddr cfg.P 46 (Value.slice x0a x0n x0c) (Value.int .i64 x6) = some (Value.pointer (some ⟨x26p, x26o, some x26l⟩))) (h4 : getCells H x26p x26l x26o 8 = some x27.toList) (h5 : callInf cfg 20 [Value.agg x27, Value.int .i64 x8] (List.length H0) H = some (Value.bool x29, H)) (h6 : x29 = true) (h7 : aindexAddr cfg.P 46 (Value.slice x0a x0n x0c) (Value.int .i64 x8) = some (Value.pointer (some ⟨x33p, x33o, some x33l⟩))) (h8 : getCells H x33p x33l x33o 8 = some x34.toList) (h9 : callInf cfg 20 [Value.agg x34, Value.int .i64 x6] (List.length H0) H = some (Value.bool x36, H)) (h10 : x36 = true) (h11 : aindexAddr cfg.P 34 (Value.slice x4a x4n x4c) (Value.int .i64 x8) = some (Value.pointer (some ⟨x40p, x40o, some x40l⟩))) (h12 : getCells H x40p x40l x40o 1 = some [Value.int .i64 x41]) (h13 : Fit .i64 (x8 + 1)) : lpOf cfg a41 1 prot H0 ([.slice x0a x0n x0c, .slice x4a x4n x4c, .int .i64 x5, .int .i64 x6, .int .i64 x7, .int .i64 x8], H) = some (Sum.inl ([Value.slice x0a x0n x0c, Value.slice x4a x4n x4c, Value.int .i64 x5, Value.int .i64 x6, Value.int .i64 x41, Value.int .i64 (x8 + 1)], H)) :=
  lp_of2 [.e, .b true, .b true, .e, .b true, .b true, .v (.pointer (some ⟨x26p, x26o, some x26l⟩)), .v (.agg x27), .v (.bool x29), .b true, .b true, .b true, .v (.pointer (some ⟨x33p, x33o, some x33l⟩)), .b true, .v (.agg x34), .b true, .b true, .v (.bool x36), .b true, .b true, .v (.pointer (some ⟨x40p, x40o, some x40l⟩)), .v (.int .i64 x41), .e] (ai (decide_eq_true h1) (ai (decide_eq_true h1) (ai (decide_eq_true h1) (ai (decide_eq_true h2) (ai h3 (ai h4 (ai h5 (ai h6 (ai h6 (ai h6 (ai h7 (ai h6 (ai h8 (ai h6 (ai h6 (ai h9 (ai h6 (ai h10 (ai h11 (ai h12 (ai h13 (Eq.refl (Sum.inl ([Value.slice x0a x0n x0c, Value.slice x4a x4n x4c, Value.int .i64 x5, Value.int .i64 x6, Value.int .i64 x41, Value.int .i64 (x8 + 1)], H) : LS ⊕ LO))))))))))))))))))))))) (by kernel_rfl)
theorem f41_L1_1 {x0a : Option Addr} {x0n x0c : Nat} {x4a : Option Addr} {x4n x4c : Nat} {x5 x6 x7 x8 : Int} {H0 : AHeap} {prot : Nat} {H : AHeap} {x26p x26o x26l : Nat} {x27 : Array Value} {x29 : Bool} {x33p x33o x33l : Nat} {x34 : Array Value} {x36 : Bool} (h1 : x8 < x6) (h2 : x7 < 0) (h3 : aindexAddr cfg.P 46 (Value.slice x0a x0n x0c) (Value.int .i64 x6) = some (Value.pointer (some ⟨x26p, x26o, some x26l⟩))) (h4 : getCells H x26p x26l x26o 8 = some x27.toList) (h5 : callInf cfg 20 [Value.agg x27, Value.int .i64 x8] (List.length H0) H = some (Value.bool x29, H)) (h6 : x29 = true) (h7 : aindexAddr cfg.P 46 (Value.slice x0a x0n x0c) (Value.int .i64 x8) = some (Value.pointer (some ⟨x33p, x33o, some x33l⟩))) (h8 : getCells H x33p x33l x33o 8 = some x34.toList) (h9 : callInf cfg 20 [Value.agg x34, Value.int .i64 x6] (List.length H0) H = some (Value.bool x36, H)) (h10 : x36 = false) (h11 : Fit .i64 (x8 + 1)) : lpOf cfg a41 1 prot H0 ([.slice x0a x0n x0c, .slice x4a x4n x4c, .int .i64 x5, .int .i64 x6, .int .i64 x7, .int .i64 x8], H) = some (Sum.inl ([Value.slice x0a x0n x0c, Value.slice x4a x4n x4c, Value.int .i64 x5, Value.int .i64 x6, Value.int .i64 x7, Value.int .i64 (x8 + 1)], H)) :=
  lp_of2 [.e, .b true, .b true, .e, .b true, .b true, .v (.pointer (some ⟨x26p, x26o, some x26l⟩)), .v (.agg x27), .v (.bool x29), .b true, .b true, .b true, .v (.pointer (some ⟨x33p, x33o, some x33l⟩)), .b true, .v (.agg x34), .b true, .b true, .v (.bool x36), .b true, .b false, .e] (ai (decide_eq_true h1) (ai (decide_eq_true h1) (ai (decide_eq_true h1) (ai (decide_eq_true h2) (ai h3 (ai h4 (ai h5 (ai h6 (ai h6 (ai h6 (ai h7 (ai h6 (ai h8 (ai h6 (ai h6 (ai h9 (ai h6 (ai h10 (ai h11 (Eq.refl (Sum.inl ([Value.slice x0a x0n x0c, Value.slice x4a x4n x4c, Value.int .i64 x5, Value.int .i64 x6, Value.int .i64 x7, Value.int .i64 (x8 + 1)], H) : LS ⊕ LO))))))))))))))))))))) (by kernel_rfl)
theorem f41_L1_2 {x0a : Option Addr} {x0n x0c : Nat} {x4a : Option Addr} {x4n x4c : Nat} {x5 x6 x7 x8 : Int} {H0 : AHeap} {prot : Nat} {H : AHeap} {x26p x26o x26l : Nat} {x27 : Array Value} {x29 : Bool} (h1 : x8 < x6) (h2 : x7 < 0) (h3 : aindexAddr cfg.P 46 (Value.slice x0a x0n x0c) (Value.int .i64 x6) = some (Value.pointer (some ⟨x26p, x26o, some x26l⟩))) (h4 : getCells H x26p x26l x26o 8 = some x27.toList) (h5 : callInf cfg 20 [Value.agg x27, Value.int .i64 x8] (List.length H0) H = some (Value.bool x29, H)) (h6 : x29 = false) (h7 : Fit .i64 (x8 + 1)) : lpOf cfg a41 1 prot H0 ([.slice x0a x0n x0c, .slice x4a x4n x4c, .int .i64 x5, .int .i64 x6, .int .i64 x7, .int .i64 x8], H) = some (Sum.inl ([Value.slice x0a x0n x0c, Value.slice x4a x4n x4c, Value.int .i64 x5, Value.int .i64 x6, Value.int .i64 x7, Value.int .i64 (x8 + 1)], H)) :=
  lp_of2 [.e, .b true, .b true, .e, .b true, .b true, .v (.pointer (some ⟨x26p, x26o, some x26l⟩)), .v (.agg x27), .v (.bool x29), .b false, .b false, .b false, .b false, .b false, .b false, .b false, .b false, .e] (ai (decide_eq_true h1) (ai (decide_eq_true h1) (ai (decide_eq_true h1) (ai (decide_eq_true h2) (ai h3 (ai h4 (ai h5 (ai h6 (ai h6 (ai h6 (ai h6 (ai h6 (ai h6 (ai h6 (ai (Eq.refl false) (ai h7 (Eq.refl (Sum.inl ([Value.slice x0a x0n x0c, Value.slice x4a x4n x4c, Value.int .i64 x5, Value.int .i64 x6, Value.int .i64 x7, Value.int .i64 (x8 + 1)], H) : LS ⊕ LO)))))))))))))))))) (by kernel_rfl)
theorem f41_L1_3 {x0a : Option Addr} {x0n x0c : Nat} {x4a : Option Addr} {x4n x4c : Nat} {x5 x6 x7 x8 : Int} {H0 : AHeap} {prot : Nat} {H : AHeap} (h1 : x8 < x6) (h2 : ¬(x7 < 0)) : lpOf cfg a41 1 prot H0 ([.slice x0a x0n x0c, .slice x4a x4n x4c, .int .i64 x5, .int .i64 x6, .int .i64 x7, .int .i64 x8], H) = some (Sum.inr (Ex.exit 2, [Value.slice x0a x0n x0c, Value.slice x4a x4n x4c, Value.int .i64 x5, Value.int .i64 x6, Value.int .i64 x7], H)) :=
  lp_of2 [.e, .b true, .b true, .e, .b true, .b false] (ai (decide_eq_true h1) (ai (decide_eq_true h1) (ai (decide_eq_true h1) (ai (decide_eq_false h2) (Eq.refl (Sum.inr (Ex.exit 2, [Value.slice x0a x0n x0c, Value.slice x4a x4n x4c, Value.int .i64 x5, Value.int .i64 x6, Value.int .i64 x7], H) : LS ⊕ LO)))))) (by kernel_rfl)
theorem f41_L1_4 {x0a : Option Addr} {x0n x0c : Nat} {x4a : Option Addr} {x4n x4c : Nat} {x5 x6 x7 x8 : Int} {H0 : AHeap} {prot : Nat} {H : AHeap} (h1 : ¬(x8 < x6)) : lpOf cfg a41 1 prot H0 ([.slice x0a x0n x0c, .slice x4a x4n x4c, .int .i64 x5, .int .i64 x6, .int .i64 x7, .int .i64 x8], H) = some (Sum.inr (Ex.exit 2, [Value.slice x0a x0n x0c, Value.slice x4a x4n x4c, Value.int .i64 x5, Value.int .i64 x6, Value.int .i64 x7], H)) :=
  lp_of2 [.e, .b false, .b false, .b false, .b false] (ai (decide_eq_false h1) (ai (decide_eq_false h1) (ai (decide_eq_false h1) (ai (Eq.refl false) (Eq.refl (Sum.inr (Ex.exit 2, [Value.slice x0a x0n x0c, Value.slice x4a x4n x4c, Value.int .i64 x5, Value.int .i64 x6, Value.int .i64 x7], H) : LS ⊕ LO)))))) (by kernel_rfl)
end Go.Proofs.Ytkemihfaohkoeaa.Am11
set_option linter.unusedVariables false
open Go Go.Proofs.Ytkemihfaohkoeaa.Am
namespace Go.Proofs.Ytkemihfaohkoeaa.Am11
theorem f23_F_0 {x0a : Option Addr} {x0n x0c : Nat} {H : AHeap} {prot : Nat} {x9 : Int} (h1 : callInf cfg 26 [Value.slice x0a x0n x0c] (List.length H) H = some (Value.int .i64 x9, H)) (h2 : (x9 != 0) = true) : callInf cfg 23 [.slice x0a x0n x0c] prot H = some (Value.tuple { toList := [Value.slice none 0 0, Value.int .i64 0, Value.int .i64 x9] }, H) :=
  fn_of2 a23 [.v (.int .i64 x9), .e, .b true] (ai h1 (ai h2 (Eq.refl ((Value.tuple { toList := [Value.slice none 0 0, Value.int .i64 0, Value.int .i64 x9] }, H) : Value × AHeap)))) (by kernel_rfl) rfl
theorem f23_F_1 {x0a : Option Addr} {x0n x0c : Nat} {H : AHeap} {prot : Nat} {x9 : Int} {x15a : Option Addr} {x15n x15c : Nat} {H1 : AHeap} {x16aa : Option Addr} {x16an x16ac : Nat} {x16b : Int} {H2 : AHeap} (rv : Value) (rH : AHeap) (h1 : callInf cfg 26 [Value.slice x0a x0n x0c] (List.length H) H = some (Value.int .i64 x9, H)) (h2 : (x9 != 0) = false) (h3 : callInf cfg 42 [Value.slice x0a x0n x0c] (List.length H) H = some (Value.slice x15a x15n x15c, H1)) (h4 : callInf cfg 41 [Value.slice x15a x15n x15c] (List.length H) H1 = some (Value.tuple { toList := [Value.slice x16aa x16an x16ac, Value.int .i64 x16b] }, H2)) (h5 : pfin a23 H [Value.slice x16aa x16an x16ac, Value.int .i64 x16b, Value.int .i64 0] H2 = (rv, rH)) : callInf cfg 23 [.slice x0a x0n x0c] prot H = some (rv, rH) :=
  fn_of2 a23 [.v (.int .i64 x9), .e, .b false, .r (.slice x15a x15n x15c) H1, .r (.tuple #[.slice x16aa x16an x16ac, .int .i64 x16b]) H2] (ai h1 (ai h2 (ai h3 (ai h4 h5)))) (by kernel_rfl) rfl
end Go.Proofs.Ytkemihfaohkoeaa.Am11
namespace Go.Proofs.Ytkemihfaohkoeaa.Am11
open Go Go.Proofs.Ytkemihfaohkoeaa.Am
theorem abuild46 (H : AHeap) (S : Nat → Bool) : abuildSlice cfg.P 46 1 [(0, .agg (setA S))] H = some (.slice (some ⟨H.length, 0, some (1 * 8)⟩) 1 1, H ++ [.cells (setL S) 39 (setL S).length .row]) := by
  unfold abuildSlice
  rw [T46.sl, Option.bind_some, T46.sz, Option.bind_some, if_neg (by omega), if_neg (by omega)]
  have hz : tzero cfg.P 39 = some (.agg ((List.replicate 8 (.int .u64 0)).toArray)) := z39
  rw [hz, Option.bind_some]
  have hc : cellsOf (.agg ((List.replicate 8 (Value.int .u64 0)).toArray)) = List.replicate 8 (.int .u64 0) := rfl
  rw [hc, if_pos (by exact ⟨rfl, rfl⟩)]
  have hf : afill (fun i => some (i * 8, 8)) (repCells (List.replicate 8 (.int .u64 0)) 1) [(0, .agg (setA S))] = some (setL S) := by
    have hr : repCells (List.replicate 8 (Value.int .u64 0)) 1 = List.replicate 8 (.int .u64 0) := by simp [repCells]
    rw [hr]
    unfold afill
    have hl := setL_len S
    have hcs : cellsOf (.agg (setA S)) = setL S := rfl
    simp [hcs, hl, putList, setL_cell, afill]
  rw [hf]
  rfl
theorem sets_snoc (A : Nat → Nat → Bool) (n : Nat) : sets A n ++ setL (A n) = sets A (n + 1) := (sets_succ A n).symm
theorem loop42 {G : List (List Int)} (hG : Good G) {x0 : Value} {H0 : AHeap} (hg : Gr H0 x0 G) {prot : Nat} : ∀ (d i : Nat) (x3 : Value) (o : Option Nat) (H : AHeap), i + d = G.length → Stay none H0 H → Own H 39 8 x3 o i (sets (rs G) i) → (∀ id, o = some id → H0.length ≤ id) →
    ∃ x' o' H', lpInf (lpOf cfg a42 0 prot H0) ([x0, x3, .int .i64 i], H) = some (.exit 0, [x'], H') ∧ Own H' 39 8 x' o' G.length (sets (rs G) G.length) ∧ (∀ id, o' = some id → H0.length ≤ id) ∧ Stay none H0 H'
  | 0, i, x3, o, H, hi, hst, hx, ho => by
    have he : i = G.length := by omega
    subst he
    refine ⟨x3, o, H, ?_, hx, ho, hst⟩
    obtain ⟨_, _, rfl⟩ := hg.len
    obtain ⟨_, _, rfl⟩ := hx.len
    exact lp_last (f42_L0_1 (by omega))
  | d + 1, i, x3, o, H, hi, hst, hx, ho => by
    have h5 := hG.1
    have hil : i < G.length := by omega
    obtain ⟨HB, hHB⟩ : ∃ HB, HB = H ++ [wo [.int .i64 (i : Int)] 3] := ⟨_, rfl⟩
    have sB : Stay none H HB := by rw [hHB]; exact Stay.app none H _
    have hrow : Rd HB 3 1 (.slice (some ⟨H.length, 0, some (1 * 1)⟩) 1 1) [i].length (il (nl [i])) := by rw [hHB]; exact (own_new rfl (by omega) rfl rfl).rd
    have h44 := c44 hG (F := [i]) (fun f hf => by rw [List.mem_singleton.1 hf]; exact hil) (by simp) H0.length (hg.stay (hst.trans sB)) hrow
    rw [rfS_one, hHB] at h44
    have hb := abuild46 HB (rs G i)
    have hxB := hx.stay sB (fun id _ e => by cases e)
    have hl0 := (hst.trans sB).1
    obtain ⟨a', c', o', H3, q1, q2, q3, q4, q5, q6⟩ := own_app T46 hxB (ecs := setL (rs G i)) (setL_len _) (setL_cell _) (prot := H0.length) (room := true) ho hl0 (by omega) (L := 1 * 8) rfl (el := (setL (rs G i)).length) rfl
    rw [sets_snoc] at q2
    have hst3 : Stay none H0 H3 := (hst.trans sB).over q3 ho
    obtain ⟨x', o2, H', z1, z2⟩ := loop42 hG hg (prot := prot) d (i + 1) _ (some o') H3 (by omega) hst3 q2 (fun id e => by cases e; exact q4)
    refine ⟨x', o2, H', ?_, z2⟩
    rw [hHB] at hb q1
    obtain ⟨_, _, rfl⟩ := hg.len
    obtain ⟨_, _, rfl⟩ := hx.len
    exact lp_next (f42_L0_0 (by omega) h44 hb q1 (fit64 (by omega) (by omega))) z1
theorem c42 {G : List (List Int)} (hG : Good G) {x0 : Value} (prot : Nat) {H : AHeap} (hg : Gr H x0 G) : ∃ x' H', callInf cfg 42 [x0] prot H = some (x', H') ∧ OwnS H' 39 8 x' G.length (sets (rs G) G.length) H.length ∧ Stay none H H' := by
  obtain ⟨x1, o1, H1, z1, z2, z3, z4⟩ := loop42 hG hg (prot := prot) G.length 0 (.slice none 0 0) none H (by omega) (Stay.refl _ _) own_nil (fun id h => by cases h)
  obtain ⟨x', H', g1, g2, g3⟩ := gcS (.inl ⟨o1, z2, z3⟩) (sets_plain _ _) (ps := []) rfl
  refine ⟨x', H', ?_, g2, g3⟩
  obtain ⟨_, _, rfl⟩ := hg.len
  obtain ⟨_, _, rfl⟩ := z2.len
  exact f42_F_0 _ _ z1 (by rw [pfin_eq, if_neg (by simp [a42])]; exact g1)

/-! ### Numbers -/
theorem sets_rdP {H : AHeap} {x : Value} {n : Nat} {A : Nat → Nat → Bool} (h : Rd H 39 8 x n (sets A n)) {k : Nat} (hk : k < n) :
    ∃ id L, aindexAddr cfg.P 46 x (.int .i64 (k : Nat)) = some (.pointer (some ⟨id, k * 8, some L⟩)) ∧ getCells H id L (k * 8) 8 = some (setA (A k)).toList := by
  obtain ⟨id, L, a, b⟩ := rd_atS T46 h hk
  have := b 0 8 (Nat.le_refl _)
  rw [Nat.add_zero, sets_get A n hk] at this
  exact ⟨id, L, a, this⟩
theorem loop41i {G : List (List Int)} (h5 : G.length ≤ 512) {x0 x4 : Value} {H0 H : AHeap} {prot : Nat} (h0 : Rd H 39 8 x0 G.length (sets (rs G) G.length)) {out : List Nat} {v : Nat} (hv : v < G.length) (hl : out.length = v) (h4 : Rd H 3 1 x4 v (il (nl out))) {n : Int} : ∀ (d u : Nat), u + d = v →
    lpInf (lpOf cfg a41 1 prot H0) ([x0, x4, .int .i64 n, .int .i64 v, .int .i64 (-1), .int .i64 u], H) = some (.exit 2, [x0, x4, .int .i64 n, .int .i64 v, .int .i64 (match findM (mu G v) d u with | some w => ((out.getD w 0 : Nat) : Int) | none => -1)], H)
  | 0, u, hu => by
    obtain ⟨_, _, rfl⟩ := h0.len
    obtain ⟨_, _, rfl⟩ := h4.len
    exact lp_last (f41_L1_4 (by omega))
  | d + 1, u, hu => by
    have hul : u < v := by omega
    obtain ⟨i1, L1, p1, q1⟩ := sets_rdP h0 hv
    obtain ⟨i2, L2, p2, q2⟩ := sets_rdP h0 (show u < G.length by omega)
    have c1 := c20 (S := rs G v) (show u < 512 by omega) H0.length H
    have c2 := c20 (S := rs G u) (show v < 512 by omega) H0.length H
    have fi : Fit .i64 ((u : Int) + 1) := fit64 (by omega) (by omega)
    have hvu : rs G v u = true ↔ Rch G v u := by
      rw [rs_iff]
      refine ⟨fun h => ?_, .inr⟩
      rcases h with h | h
      · omega
      · exact h
    have huv : rs G u v = true ↔ Rch G u v := by
      rw [rs_iff]
      refine ⟨fun h => ?_, .inr⟩
      rcases h with h | h
      · omega
      · exact h
    rw [findM]
    cases e1 : rs G v u with
    | false =>
      have hm : mu G v u = false := by
        rw [Bool.eq_false_iff]; intro h
        have := hvu.2 (mu_iff.1 h).1
        rw [e1] at this; cases this
      rw [hm, if_neg (by simp)]
      rw [e1] at c1
      have ih := loop41i h5 h0 hv hl h4 (n := n) (H0 := H0) (prot := prot) d (u + 1) (by omega)
      obtain ⟨_, _, rfl⟩ := h0.len
      obtain ⟨_, _, rfl⟩ := h4.len
      exact lp_next (f41_L1_2 (x27 := setA (rs G v)) (by omega) (by omega) p1 q1 c1 rfl fi) ih
    | true =>
      rw [e1] at c1
      cases e2 : rs G u v with
      | false =>
        have hm : mu G v u = false := by
          rw [Bool.eq_false_iff]; intro h
          have := huv.2 (mu_iff.1 h).2
          rw [e2] at this; cases this
        rw [hm, if_neg (by simp)]
        rw [e2] at c2
        have ih := loop41i h5 h0 hv hl h4 (n := n) (H0 := H0) (prot := prot) d (u + 1) (by omega)
        obtain ⟨_, _, rfl⟩ := h0.len
        obtain ⟨_, _, rfl⟩ := h4.len
        exact lp_next (f41_L1_1 (x27 := setA (rs G v)) (x34 := setA (rs G u)) (by omega) (by omega) p1 q1 c1 rfl p2 q2 c2 rfl fi) ih
      | true =>
        have hm : mu G v u = true := mu_iff.2 ⟨hvu.1 e1, huv.1 e2⟩
        rw [hm, if_pos rfl]
        rw [e2] at c2
        have hget : (il (nl out))[u]? = some (.int .i64 ((out.getD u 0 : Nat) : Int)) := by
          unfold il nl
          rw [List.getElem?_map, List.getElem?_map, List.getElem?_eq_getElem (by omega), List.getD_eq_getElem?_getD, List.getElem?_eq_getElem (by omega)]
          rfl
        obtain ⟨i3, L3, p3, q3⟩ := rd_at T34 h4 hget
        obtain ⟨_, _, rfl⟩ := h0.len
        obtain ⟨_, _, rfl⟩ := h4.len
        refine lp_next (f41_L1_0 (x27 := setA (rs G v)) (x34 := setA (rs G u)) (by omega) (by omega) p1 q1 c1 rfl p2 q2 c2 rfl p3 q3 fi) ?_
        by_cases he : u + 1 < v
        · exact lp_last (f41_L1_3 (by omega) (by omega))
        · exact lp_last (f41_L1_4 (by omega))
theorem loop41 {G : List (List Int)} (h5 : G.length ≤ 512) {x0 : Value} {H0 : AHeap} {prot : Nat} (h0 : Rd H0 39 8 x0 G.length (sets (rs G) G.length)) : ∀ (d v : Nat) (out : List Nat) (n : Nat) (x4 : Value) (o : Option Nat) (H : AHeap), v + d = G.length → out.length = v → n ≤ v → Stay none H0 H → Own H 3 1 x4 o v (il (nl out)) → (∀ id, o = some id → H0.length ≤ id) →
    ∃ x' o' H', lpInf (lpOf cfg a41 0 prot H0) ([x0, x4, .int .i64 n, .int .i64 v], H) = some (.exit 0, [x', .int .i64 (numR G d v out n).2], H') ∧ Own H' 3 1 x' o' G.length (il (nl (numR G d v out n).1)) ∧ (∀ id, o' = some id → H0.length ≤ id) ∧ Stay none H0 H'
  | 0, v, out, n, x4, o, H, hv, hl, hn, hst, hx, ho => by
    have he : v = G.length := by omega
    subst he
    refine ⟨x4, o, H, ?_, hx, ho, hst⟩
    obtain ⟨_, _, rfl⟩ := h0.len
    obtain ⟨_, _, rfl⟩ := hx.len
    exact lp_last (f41_L0_2 (by omega))
  | d + 1, v, out, n, x4, o, H, hv, hl, hn, hst, hx, ho => by
    have hvl : v < G.length := by omega
    have hi := loop41i h5 (h0.stay hst) (H0 := H0) (prot := prot) hvl hl hx.rd (n := (n : Int)) v 0 (by omega)
    have hl0 := hst.1
    have app := fun c : Nat => own_app T34 hx (ecs := [.int .i64 (c : Int)]) rfl rfl (prot := H0.length) (room := true) ho hl0 (by omega) (L := 1 * 1) rfl (el := [Value.int .i64 (c : Int)].length) rfl
    rw [numR]
    cases hf : findM (mu G v) v 0 with
    | some u =>
      rw [hf] at hi
      simp only at hi
      obtain ⟨a', c', o', H3, q1, q2, q3, q4, q5, q6⟩ := app (out.getD u 0)
      rw [show il (nl out) ++ [Value.int .i64 ((out.getD u 0 : Nat) : Int)] = il (nl (out ++ [out.getD u 0])) by simp [il, nl]] at q2
      obtain ⟨x', o2, H', z1, z2⟩ := loop41 h5 (prot := prot) h0 d (v + 1) (out ++ [out.getD u 0]) n _ (some o') H3 (by omega) (by simp [hl]) (by omega) (hst.over q3 ho) q2 (fun id e => by cases e; exact q4)
      refine ⟨x', o2, H', ?_, z2⟩
      obtain ⟨_, _, rfl⟩ := h0.len
      obtain ⟨_, _, rfl⟩ := hx.len
      exact lp_next (f41_L0_1 (by omega) hi (by omega) q1 (fit64 (by omega) (by omega))) z1
    | none =>
      rw [hf] at hi
      simp only at hi
      obtain ⟨a', c', o', H3, q1, q2, q3, q4, q5, q6⟩ := app n
      rw [show il (nl out) ++ [Value.int .i64 ((n : Nat) : Int)] = il (nl (out ++ [n])) by simp [il, nl]] at q2
      obtain ⟨x', o2, H', z1, z2⟩ := loop41 h5 (prot := prot) h0 d (v + 1) (out ++ [n]) (n + 1) _ (some o') H3 (by omega) (by simp [hl]) (by omega) (hst.over q3 ho) q2 (fun id e => by cases e; exact q4)
      refine ⟨x', o2, H', ?_, z2⟩
      obtain ⟨_, _, rfl⟩ := h0.len
      obtain ⟨_, _, rfl⟩ := hx.len
      exact lp_next (f41_L0_0 (by omega) hi (by omega) (fit64 (by omega) (by omega)) q1 (fit64 (by omega) (by omega))) z1
theorem c41 {G : List (List Int)} (h5 : G.length ≤ 512) {x0 : Value} (prot : Nat) {H : AHeap} (h0 : Rd H 39 8 x0 G.length (sets (rs G) G.length)) :
    ∃ x' H', callInf cfg 41 [x0] prot H = some (.tuple #[x', .int .i64 (comp G).2], H') ∧ OwnE H' 3 x' G.length (il (nl (comp G).1)) H.length ∧ Stay none H H' := by
  obtain ⟨x1, o1, H1, z1, z2, z3, z4⟩ := loop41 h5 (prot := prot) h0 G.length 0 [] 0 (.slice none 0 0) none H (by omega) rfl (Nat.le_refl _) (Stay.refl _ _) own_nil (fun id h => by cases h)
  obtain ⟨x', H', g1, g2, g3⟩ := gcE (H := H) (.inl ⟨o1, z2, z3⟩) (il_plain _) (ps := [.int .i64 ((comp G).2 : Nat)]) rfl
  refine ⟨x', H', ?_, g2, g3⟩
  obtain ⟨_, _, rfl⟩ := h0.len
  obtain ⟨_, _, rfl⟩ := z2.len
  exact f41_F_0 _ _ z1 (by rw [pfin_eq, if_neg (by simp [a41])]; exact g1)
theorem c23 {G : List (List Int)} (hs : Short G) {vG : Value} (prot : Nat) {H : AHeap} (hg : Gr H vG G) :
    (chk G ≠ 0 ∧ callInf cfg 23 [vG] prot H = some (.tuple #[.slice none 0 0, .int .i64 0, .int .i64 (chk G)], H)) ∨
    (chk G = 0 ∧ ∃ x' H', callInf cfg 23 [vG] prot H = some (.tuple #[x', .int .i64 (comp G).2, .int .i64 0], H') ∧ OwnE H' 3 x' G.length (il (nl (comp G).1)) H.length ∧ Stay none H H') := by
  have h26 := c26 hs H.length hg
  have hgl := hg.len
  by_cases h : chk G = 0
  · refine .inr ⟨h, ?_⟩
    have hG := good_of hs h
    obtain ⟨y, H1, w1, w2, w3⟩ := c42 hG H.length hg
    obtain ⟨z, H2, n1, n2, n3⟩ := c41 hG.1 H.length w2.rd
    obtain ⟨x', H', g1, g2, g3⟩ := gcE (H := H) (n2.weak w3.1) (il_plain _) (ps := [.int .i64 ((comp G).2 : Nat), .int .i64 0]) rfl
    refine ⟨x', H', ?_, g2, g3⟩
    obtain ⟨aG, cG, rfl⟩ := hgl
    obtain ⟨_, _, rfl⟩ := w2.rd.len
    obtain ⟨_, _, rfl⟩ := n2.rd.len
    exact f23_F_1 _ _ h26 (by simp [h]) w1 n1 (by rw [pfin_eq, if_neg (by simp [a23])]; exact g1)
  · refine .inl ⟨h, ?_⟩
    obtain ⟨aG, cG, rfl⟩ := hgl
    exact f23_F_0 h26 (by simpa using h)
end Go.Proofs.Ytkemihfaohkoeaa.Am11
set_option linter.unusedVariables false
open Go Go.Proofs.Ytkemihfaohkoeaa.Am
namespace Go.Proofs.Ytkemihfaohkoeaa.Am11
theorem f24_F_0 {x0a : Option Addr} {x0n x0c : Nat} {H : AHeap} {prot : Nat} {x12 : Int} (h1 : callInf cfg 26 [Value.slice x0a x0n x0c] (List.length H) H = some (Value.int .i64 x12, H)) (h2 : (x12 != 0) = true) : callInf cfg 24 [.slice x0a x0n x0c] prot H = some (Value.tuple { toList := [Value.slice none 0 0, Value.int .i64 x12] }, H) :=
  fn_of2 a24 [.v (.int .i64 x12), .e, .b true] (ai h1 (ai h2 (Eq.refl ((Value.tuple { toList := [Value.slice none 0 0, Value.int .i64 x12] }, H) : Value × AHeap)))) (by kernel_rfl) rfl
theorem f24_F_1 {x0a : Option Addr} {x0n x0c : Nat} {H : AHeap} {prot : Nat} {x12 : Int} {x17a : Option Addr} {x17n x17c : Nat} {H1 : AHeap} {x20aa : Option Addr} {x20an x20ac : Nat} {x20b : Int} {H2 : AHeap} {z8a : Option Addr} {z8n z8c : Nat} {H3 : AHeap} (rv : Value) (rH : AHeap) (h1 : callInf cfg 26 [Value.slice x0a x0n x0c] (List.length H) H = some (Value.int .i64 x12, H)) (h2 : (x12 != 0) = false) (h3 : callInf cfg 42 [Value.slice x0a x0n x0c] (List.length H) H = some (Value.slice x17a x17n x17c, H1)) (h4 : callInf cfg 41 [Value.slice x17a x17n x17c] (List.length H) H1 = some (Value.tuple { toList := [Value.slice x20aa x20an x20ac, Value.int .i64 x20b] }, H2)) (h5 : 0 ≤ x20b) (h6 : x20b = x20b) (h7 : x20b ≤ 9223372036854775807) (h8 : (↑64 : Int) * x20b ≤ 2 ^ 48) (h9 : lpInf (lpOf cfg a24 0 prot H) ([Value.slice x0a x0n x0c, Value.slice x17a x17n x17c, Value.slice x20aa x20an x20ac, Value.slice (some ⟨List.length H2, 0, some (x20b.toNat * 8)⟩) x20b.toNat x20b.toNat, Value.int .i64 0], H2 ++ [AObj.cells (repCells [Value.int .u64 0, Value.int .u64 0, Value.int .u64 0, Value.int .u64 0, Value.int .u64 0, Value.int .u64 0, Value.int .u64 0, Value.int .u64 0] x20b.toNat) 39 (repCells [Value.int .u64 0, Value.int .u64 0, Value.int .u64 0, Value.int .u64 0, Value.int .u64 0, Value.int .u64 0, Value.int .u64 0, Value.int .u64 0] x20b.toNat).length OMode.row]) = some (Ex.exit 0, [Value.slice z8a z8n z8c], H3)) (h10 : pfin a24 H [Value.slice z8a z8n z8c, Value.int .i64 0] H3 = (rv, rH)) : callInf cfg 24 [.slice x0a x0n x0c] prot H = some (rv, rH) :=
  fn_of2 a24 [.v (.int .i64 x12), .e, .b false, .r (.slice x17a x17n x17c) H1, .r (.tuple #[.slice x20aa x20an x20ac, .int .i64 x20b]) H2, .e, .lo (.exit 0, [.slice z8a z8n z8c], H3)] (ai h1 (ai h2 (ai h3 (ai h4 (ai h5 (ai h6 (ai h7 (ai h8 (ai h9 h10))))))))) (by kernel_rfl) rfl
theorem f24_L0_0 {x0a : Option Addr} {x0n x0c : Nat} {x5a : Option Addr} {x5n x5c : Nat} {x6a : Option Addr} {x6n x6c : Nat} {x8a : Option Addr} {x8n x8c : Nat} {x9 : Int} {H0 : AHeap} {prot : Nat} {H : AHeap} {z0a : Option Addr} {z0n z0c : Nat} {z5a : Option Addr} {z5n z5c : Nat} {z6a : Option Addr} {z6n z6c : Nat} {z8a : Option Addr} {z8n z8c : Nat} {z9 : Int} {H2 : AHeap} (h1 : x9 < (↑x0n : Int)) (h2 : lpInf (lpOf cfg a24 1 prot H0) ([Value.slice x0a x0n x0c, Value.slice x5a x5n x5c, Value.slice x6a x6n x6c, Value.slice x8a x8n x8c, Value.int .i64 x9, Value.int .i64 0], H) = some (Ex.exit 2, [Value.slice z0a z0n z0c, Value.slice z5a z5n z5c, Value.slice z6a z6n z6c, Value.slice z8a z8n z8c, Value.int .i64 z9], H2)) (h3 : Fit .i64 (z9 + 1)) : lpOf cfg a24 0 prot H0 ([.slice x0a x0n x0c, .slice x5a x5n x5c, .slice x6a x6n x6c, .slice x8a x8n x8c, .int .i64 x9], H) = some (Sum.inl ([Value.slice z0a z0n z0c, Value.slice z5a z5n z5c, Value.slice z6a z6n z6c, Value.slice z8a z8n z8c, Value.int .i64 (z9 + 1)], H2)) :=
  lp_of2 [.e, .e, .b true, .lo (.exit 2, [.slice z0a z0n z0c, .slice z5a z5n z5c, .slice z6a z6n z6c, .slice z8a z8n z8c, .int .i64 z9], H2), .e] (ai (decide_eq_true h1) (ai h2 (ai h3 (Eq.refl (Sum.inl ([Value.slice z0a z0n z0c, Value.slice z5a z5n z5c, Value.slice z6a z6n z6c, Value.slice z8a z8n z8c, Value.int .i64 (z9 + 1)], H2) : LS ⊕ LO))))) (by kernel_rfl)
theorem f24_L0_1 {x0a : Option Addr} {x0n x0c : Nat} {x5a : Option Addr} {x5n x5c : Nat} {x6a : Option Addr} {x6n x6c : Nat} {x8a : Option Addr} {x8n x8c : Nat} {x9 : Int} {H0 : AHeap} {prot : Nat} {H : AHeap} (h1 : ¬(x9 < (↑x0n : Int))) : lpOf cfg a24 0 prot H0 ([.slice x0a x0n x0c, .slice x5a x5n x5c, .slice x6a x6n x6c, .slice x8a x8n x8c, .int .i64 x9], H) = some (Sum.inr (Ex.exit 0, [Value.slice x8a x8n x8c], H)) :=
  lp_of2 [.e, .e, .b false] (ai (decide_eq_false h1) (Eq.refl (Sum.inr (Ex.exit 0, [Value.slice x8a x8n x8c], H) : LS ⊕ LO))) (by kernel_rfl)
theorem f24_L1_0 {x0a : Option Addr} {x0n x0c : Nat} {x5a : Option Addr} {x5n x5c : Nat} {x6a : Option Addr} {x6n x6c : Nat} {x8a : Option Addr} {x8n x8c : Nat} {x9 x10 : Int} {H0 : AHeap} {prot : Nat} {H : AHeap} {x39p x39o x39l : Nat} {x40 : Array Value} {x42 : Bool} {x46p x46o x46l : Nat} {x47 : Int} {x51p x51o x51l : Nat} {x52 : Int} {x53p x53o x53l : Nat} {x54 : Array Value} {x57p x57o x57l : Nat} {x58 : Int} {x59 : Array Value} {x60p x60o x60l : Nat} {H2 : AHeap} (h1 : x10 < (↑x0n : Int)) (h2 : aindexAddr cfg.P 46 (Value.slice x5a x5n x5c) (Value.int .i64 x9) = some (Value.pointer (some ⟨x39p, x39o, some x39l⟩))) (h3 : getCells H x39p x39l x39o 8 = some x40.toList) (h4 : callInf cfg 20 [Value.agg x40, Value.int .i64 x10] (List.length H0) H = some (Value.bool x42, H)) (h5 : x42 = true) (h6 : aindexAddr cfg.P 34 (Value.slice x6a x6n x6c) (Value.int .i64 x9) = some (Value.pointer (some ⟨x46p, x46o, some x46l⟩))) (h7 : getCells H x46p x46l x46o 1 = some [Value.int .i64 x47]) (h8 : aindexAddr cfg.P 34 (Value.slice x6a x6n x6c) (Value.int .i64 x9) = some (Value.pointer (some ⟨x51p, x51o, some x51l⟩))) (h9 : getCells H x51p x51l x51o 1 = some [Value.int .i64 x52]) (h10 : aindexAddr cfg.P 46 (Value.slice x8a x8n x8c) (Value.int .i64 x52) = some (Value.pointer (some ⟨x53p, x53o, some x53l⟩))) (h11 : getCells H x53p x53l x53o 8 = some x54.toList) (h12 : aindexAddr cfg.P 34 (Value.slice x6a x6n x6c) (Value.int .i64 x10) = some (Value.pointer (some ⟨x57p, x57o, some x57l⟩))) (h13 : getCells H x57p x57l x57o 1 = some [Value.int .i64 x58]) (h14 : callInf cfg 43 [Value.agg x54, Value.int .i64 x58] (List.length H0) H = some (Value.agg x59, H)) (h15 : aindexAddr cfg.P 46 (Value.slice x8a x8n x8c) (Value.int .i64 x47) = some (Value.pointer (some ⟨x60p, x60o, some x60l⟩))) (h16 : x59.toList.length = 8) (h17 : setCells H (List.length H0) x60p x60l x60o x59.toList = some H2) (h18 : Fit .i64 (x10 + 1)) : lpOf cfg a24 1 prot H0 ([.slice x0a x0n x0c, .slice x5a x5n x5c, .slice x6a x6n x6c, .slice x8a x8n x8c, .int .i64 x9, .int .i64 x10], H) = some (Sum.inl ([Value.slice x0a x0n x0c, Value.slice x5a x5n x5c, Value.slice x6a x6n x6c, Value.slice x8a x8n x8c, Value.int .i64 x9, Value.int .i64 (x10 + 1)], H2)) :=
  lp_of2 [.e, .e, .b true, .v (.pointer (some ⟨x39p, x39o, some x39l⟩)), .v (.agg x40), .v (.bool x42), .b true, .v (.pointer (some ⟨x46p, x46o, some x46l⟩)), .v (.int .i64 x47), .v (.pointer (some ⟨x51p, x51o, some x51l⟩)), .v (.int .i64 x52), .v (.pointer (some ⟨x53p, x53o, some x53l⟩)), .v (.agg x54), .v (.pointer (some ⟨x57p, x57o, some x57l⟩)), .v (.int .i64 x58), .v (.agg x59), .v (.pointer (some ⟨x60p, x60o, some x60l⟩)), .h H2, .e] (ai (decide_eq_true h1) (ai h2 (ai h3 (ai h4 (ai h5 (ai h6 (ai h7 (ai h8 (ai h9 (ai h10 (ai h11 (ai h12 (ai h13 (ai h14 (ai h15 (ai h16 (ai h17 (ai h18 (Eq.refl (Sum.inl ([Value.slice x0a x0n x0c, Value.slice x5a x5n x5c, Value.slice x6a x6n x6c, Value.slice x8a x8n x8c, Value.int .i64 x9, Value.int .i64 (x10 + 1)], H2) : LS ⊕ LO)))))))))))))))))))) (by kernel_rfl)
theorem f24_L1_1 {x0a : Option Addr} {x0n x0c : Nat} {x5a : Option Addr} {x5n x5c : Nat} {x6a : Option Addr} {x6n x6c : Nat} {x8a : Option Addr} {x8n x8c : Nat} {x9 x10 : Int} {H0 : AHeap} {prot : Nat} {H : AHeap} {x39p x39o x39l : Nat} {x40 : Array Value} {x42 : Bool} (h1 : x10 < (↑x0n : Int)) (h2 : aindexAddr cfg.P 46 (Value.slice x5a x5n x5c) (Value.int .i64 x9) = some (Value.pointer (some ⟨x39p, x39o, some x39l⟩))) (h3 : getCells H x39p x39l x39o 8 = some x40.toList) (h4 : callInf cfg 20 [Value.agg x40, Value.int .i64 x10] (List.length H0) H = some (Value.bool x42, H)) (h5 : x42 = false) (h6 : Fit .i64 (x10 + 1)) : lpOf cfg a24 1 prot H0 ([.slice x0a x0n x0c, .slice x5a x5n x5c, .slice x6a x6n x6c, .slice x8a x8n x8c, .int .i64 x9, .int .i64 x10], H) = some (Sum.inl ([Value.slice x0a x0n x0c, Value.slice x5a x5n x5c, Value.slice x6a x6n x6c, Value.slice x8a x8n x8c, Value.int .i64 x9, Value.int .i64 (x10 + 1)], H)) :=
  lp_of2 [.e, .e, .b true, .v (.pointer (some ⟨x39p, x39o, some x39l⟩)), .v (.agg x40), .v (.bool x42), .b false, .e] (ai (decide_eq_true h1) (ai h2 (ai h3 (ai h4 (ai h5 (ai h6 (Eq.refl (Sum.inl ([Value.slice x0a x0n x0c, Value.slice x5a x5n x5c, Value.slice x6a x6n x6c, Value.slice x8a x8n x8c, Value.int .i64 x9, Value.int .i64 (x10 + 1)], H) : LS ⊕ LO)))))))) (by kernel_rfl)
theorem f24_L1_2 {x0a : Option Addr} {x0n x0c : Nat} {x5a : Option Addr} {x5n x5c : Nat} {x6a : Option Addr} {x6n x6c : Nat} {x8a : Option Addr} {x8n x8c : Nat} {x9 x10 : Int} {H0 : AHeap} {prot : Nat} {H : AHeap} (h1 : ¬(x10 < (↑x0n : Int))) : lpOf cfg a24 1 prot H0 ([.slice x0a x0n x0c, .slice x5a x5n x5c, .slice x6a x6n x6c, .slice x8a x8n x8c, .int .i64 x9, .int .i64 x10], H) = some (Sum.inr (Ex.exit 2, [Value.slice x0a x0n x0c, Value.slice x5a x5n x5c, Value.slice x6a x6n x6c, Value.slice x8a x8n x8c, Value.int .i64 x9], H)) :=
  lp_of2 [.e, .e, .b false] (ai (decide_eq_false h1) (Eq.refl (Sum.inr (Ex.exit 2, [Value.slice x0a x0n x0c, Value.slice x5a x5n x5c, Value.slice x6a x6n x6c, Value.slice x8a x8n x8c, Value.int .i64 x9], H) : LS ⊕ LO))) (by kernel_rfl)
end Go.Proofs.Ytkemihfaohkoeaa.Am11
set_option linter.unusedVariables false
open Go Go.Proofs.Ytkemihfaohkoeaa.Am
namespace Go.Proofs.Ytkemihfaohkoeaa.Am11
theorem f28_F_1 {x0a : Option Addr} {x0n x0c : Nat} {x1a : Option Addr} {x1n x1c : Nat} {H : AHeap} {prot : Nat} {z4 : Value} {H1 : AHeap} (h1 : ((↑x0n : Int) != (↑x1n : Int)) = false) (h2 : lpInf (lpOf cfg a28 0 prot H) ([Value.slice x0a x0n x0c, Value.slice x1a x1n x1c, Value.int .i64 0], H) = some (Ex.exit 0, [z4], H1)) : callInf cfg 28 [.slice x0a x0n x0c, .slice x1a x1n x1c] prot H = some (Value.bool true, H) :=
  fn_of2 a28 [.e, .e, .e, .b false, .lo (.exit 0, [z4], H1)] (ai h1 (ai h2 (Eq.refl ((Value.bool true, H) : Value × AHeap)))) (by kernel_rfl) rfl
theorem f28_L0_1 {x0a : Option Addr} {x0n x0c : Nat} {x1a : Option Addr} {x1n x1c : Nat} {x5 : Int} {H0 : AHeap} {prot : Nat} {H : AHeap} {x19p x19o x19l : Nat} {x20 : Array Value} {x23p x23o x23l : Nat} {x24 : Array Value} {x25 : Bool} (h1 : x5 < (↑x0n : Int)) (h2 : aindexAddr cfg.P 46 (Value.slice x0a x0n x0c) (Value.int .i64 x5) = some (Value.pointer (some ⟨x19p, x19o, some x19l⟩))) (h3 : getCells H x19p x19l x19o 8 = some x20.toList) (h4 : aindexAddr cfg.P 46 (Value.slice x1a x1n x1c) (Value.int .i64 x5) = some (Value.pointer (some ⟨x23p, x23o, some x23l⟩))) (h5 : getCells H x23p x23l x23o 8 = some x24.toList) (h6 : abin cfg.P BinOp.neq 39 (Value.agg x20) (Value.agg x24) = some (Value.bool x25)) (h7 : x25 = false) (h8 : Fit .i64 (x5 + 1)) : lpOf cfg a28 0 prot H0 ([.slice x0a x0n x0c, .slice x1a x1n x1c, .int .i64 x5], H) = some (Sum.inl ([Value.slice x0a x0n x0c, Value.slice x1a x1n x1c, Value.int .i64 (x5 + 1)], H)) :=
  lp_of2 [.e, .e, .b true, .v (.pointer (some ⟨x19p, x19o, some x19l⟩)), .v (.agg x20), .v (.pointer (some ⟨x23p, x23o, some x23l⟩)), .v (.agg x24), .v (.bool x25), .b false, .e] (ai (decide_eq_true h1) (ai h2 (ai h3 (ai h4 (ai h5 (ai h6 (ai h7 (ai h8 (Eq.refl (Sum.inl ([Value.slice x0a x0n x0c, Value.slice x1a x1n x1c, Value.int .i64 (x5 + 1)], H) : LS ⊕ LO)))))))))) (by kernel_rfl)
theorem f28_L0_2 {x0a : Option Addr} {x0n x0c : Nat} {x1a : Option Addr} {x1n x1c : Nat} {x5 : Int} {H0 : AHeap} {prot : Nat} {H : AHeap} (h1 : ¬(x5 < (↑x0n : Int))) : lpOf cfg a28 0 prot H0 ([.slice x0a x0n x0c, .slice x1a x1n x1c, .int .i64 x5], H) = some (Sum.inr (Ex.exit 0, [Value.tuple { toList := [] }], H)) :=
  lp_of2 [.e, .e, .b false] (ai (decide_eq_false h1) (Eq.refl (Sum.inr (Ex.exit 0, [Value.tuple { toList := [] }], H) : LS ⊕ LO))) (by kernel_rfl)
end Go.Proofs.Ytkemihfaohkoeaa.Am11
namespace Go.Proofs.Ytkemihfaohkoeaa.Am11
open Go Go.Proofs.Ytkemihfaohkoeaa.Am
theorem loop24i {G : List (List Int)} (h512 : G.length ≤ 512) {G0 : AHeap} {x0 x5 x6 x8 : Value} (hx0 : ∃ a c, x0 = .slice a G.length c) (h5 : Rd G0 39 8 x5 G.length (sets (rs G) G.length)) (h6 : Rd G0 3 1 x6 G.length (il (nl (comp G).1))) {o : Nat} (ho : G0.length ≤ o) {H0 : AHeap} (hp : H0.length ≤ o) {prot : Nat} {v : Nat} (hv : v < G.length) {B : Nat → Nat → Prop} : ∀ (d i : Nat) (A : Nat → Nat → Bool) (H : AHeap), i + d = G.length → Stay none G0 H → Own H 39 8 x8 (some o) (comp G).2 (sets A (comp G).2) →
    (∀ c e, A c e = true ↔ B c e ∨ (c = Lc G v ∧ ∃ u, u < i ∧ RQ G v u ∧ e = Lc G u)) →
    ∃ A' H', lpInf (lpOf cfg a24 1 prot H0) ([x0, x5, x6, x8, .int .i64 v, .int .i64 i], H) = some (.exit 2, [x0, x5, x6, x8, .int .i64 v], H') ∧ Own H' 39 8 x8 (some o) (comp G).2 (sets A' (comp G).2) ∧
      (∀ c e, A' c e = true ↔ B c e ∨ (c = Lc G v ∧ ∃ u, u < G.length ∧ RQ G v u ∧ e = Lc G u)) ∧ Stay (some o) H H'
  | 0, i, A, H, hi, hst, hx, hA => by
    have he : i = G.length := by omega
    subst he
    refine ⟨A, H, ?_, hx, hA, Stay.refl _ _⟩
    obtain ⟨_, _, rfl⟩ := hx0
    obtain ⟨_, _, rfl⟩ := h5.len
    obtain ⟨_, _, rfl⟩ := h6.len
    obtain ⟨_, _, rfl⟩ := hx.len
    exact lp_last (f24_L1_2 (by omega))
  | d + 1, i, A, H, hi, hst, hx, hA => by
    have hil : i < G.length := by omega
    have hn := comp_n G
    obtain ⟨i1, L1, p1, q1⟩ := sets_rdP (h5.stay hst) hv
    have h20 := c20 (S := rs G v) (show i < 512 by omega) H0.length H
    have fi : Fit .i64 ((i : Int) + 1) := fit64 (by omega) (by omega)
    have hk := Lc_lt hv
    have hk2 := Lc_lt hil
    cases hb : rs G v i with
    | true =>
      have hr : RQ G v i := rs_iff.1 hb
      rw [hb] at h20
      obtain ⟨i2, L2, b1, b2⟩ := rd_at T34 (h6.stay hst) (comp_get hv)
      obtain ⟨i3, L3, c1, c2⟩ := rd_at T34 (h6.stay hst) (comp_get hil)
      obtain ⟨d1, d2⟩ := sets_at hx hk
      have h43 := c43 (S := A (Lc G v)) (show Lc G i < 512 by omega) H0.length H
      obtain ⟨H2, e1, e2, e3⟩ := sets_set hx hk (addS (A (Lc G v)) (Lc G i)) hp
      obtain ⟨A', H', z1, z2, z3, z4⟩ := loop24i h512 hx0 h5 h6 ho hp (prot := prot) hv (B := B) d (i + 1) _ H2 (by omega) (hst.over e3 (fun id e => by cases e; exact ho)) e2 (fun c e => by
        by_cases hc : c = Lc G v
        · subst hc
          rw [if_pos rfl]
          unfold addS
          rw [Bool.or_eq_true, decide_eq_true_eq, hA]
          constructor
          · rintro ((h | ⟨_, u, h1, h2, h3⟩) | h)
            · exact .inl h
            · exact .inr ⟨rfl, u, by omega, h2, h3⟩
            · exact .inr ⟨rfl, i, by omega, hr, h⟩
          · rintro (h | ⟨_, u, h1, h2, h3⟩)
            · exact .inl (.inl h)
            · by_cases e0 : u = i
              · subst e0; exact .inr h3
              · exact .inl (.inr ⟨rfl, u, by omega, h2, h3⟩)
        · rw [if_neg hc, hA]
          simp [hc])
      refine ⟨A', H', ?_, z2, z3, e3.trans z4⟩
      obtain ⟨_, _, rfl⟩ := hx0
      obtain ⟨_, _, rfl⟩ := h5.len
      obtain ⟨_, _, rfl⟩ := h6.len
      obtain ⟨_, _, rfl⟩ := hx.len
      exact lp_next (f24_L1_0 (x40 := setA (rs G v)) (x54 := setA (A (Lc G v))) (x59 := setA (addS (A (Lc G v)) (Lc G i))) (by omega) p1 q1 h20 rfl b1 b2 b1 b2 d1 d2 c1 c2 h43 d1 (setL_len _) e1 fi) z1
    | false =>
      have hr : ¬ RQ G v i := fun h => by have := rs_iff.2 h; rw [hb] at this; cases this
      rw [hb] at h20
      obtain ⟨A', H', z1, z2, z3, z4⟩ := loop24i h512 hx0 h5 h6 ho hp (prot := prot) hv (B := B) d (i + 1) A H (by omega) hst hx (fun c e => by
        rw [hA]
        constructor
        · rintro (h | ⟨h0, u, h1, h2, h3⟩)
          · exact .inl h
          · exact .inr ⟨h0, u, by omega, h2, h3⟩
        · rintro (h | ⟨h0, u, h1, h2, h3⟩)
          · exact .inl h
          · by_cases e0 : u = i
            · subst e0; exact absurd h2 hr
            · exact .inr ⟨h0, u, by omega, h2, h3⟩)
      refine ⟨A', H', ?_, z2, z3, z4⟩
      obtain ⟨_, _, rfl⟩ := hx0
      obtain ⟨_, _, rfl⟩ := h5.len
      obtain ⟨_, _, rfl⟩ := h6.len
      obtain ⟨_, _, rfl⟩ := hx.len
      exact lp_next (f24_L1_1 (x40 := setA (rs G v)) (by omega) p1 q1 h20 rfl fi) z1
theorem loop24o {G : List (List Int)} (h512 : G.length ≤ 512) {G0 : AHeap} {x0 x5 x6 x8 : Value} (hx0 : ∃ a c, x0 = .slice a G.length c) (h5 : Rd G0 39 8 x5 G.length (sets (rs G) G.length)) (h6 : Rd G0 3 1 x6 G.length (il (nl (comp G).1))) {o : Nat} (ho : G0.length ≤ o) {H0 : AHeap} (hp : H0.length ≤ o) {prot : Nat} : ∀ (d v : Nat) (A : Nat → Nat → Bool) (H : AHeap), v + d = G.length → Stay none G0 H → Own H 39 8 x8 (some o) (comp G).2 (sets A (comp G).2) → (∀ c e, A c e = true ↔ AbvTo G v c e) →
    ∃ A' H', lpInf (lpOf cfg a24 0 prot H0) ([x0, x5, x6, x8, .int .i64 v], H) = some (.exit 0, [x8], H') ∧ Own H' 39 8 x8 (some o) (comp G).2 (sets A' (comp G).2) ∧ (∀ c e, A' c e = true ↔ AbvTo G G.length c e) ∧ Stay (some o) H H'
  | 0, v, A, H, hi, hst, hx, hA => by
    have he : v = G.length := by omega
    subst he
    refine ⟨A, H, ?_, hx, hA, Stay.refl _ _⟩
    obtain ⟨_, _, rfl⟩ := hx0
    obtain ⟨_, _, rfl⟩ := h5.len
    obtain ⟨_, _, rfl⟩ := h6.len
    obtain ⟨_, _, rfl⟩ := hx.len
    exact lp_last (f24_L0_1 (by omega))
  | d + 1, v, A, H, hi, hst, hx, hA => by
    have hv : v < G.length := by omega
    obtain ⟨A1, H3, y1, y2, y3, y4⟩ := loop24i h512 hx0 h5 h6 ho hp (prot := prot) hv (B := AbvTo G v) G.length 0 A H (by omega) hst hx (fun c e => by
      rw [hA]; simp)
    obtain ⟨A', H', z1, z2, z3, z4⟩ := loop24o h512 hx0 h5 h6 ho hp (prot := prot) d (v + 1) A1 H3 (by omega) (hst.over y4 (fun id e => by cases e; exact ho)) y2 (fun c e => by
      rw [y3]
      constructor
      · rintro (⟨w, u, h1, h2, h3, h4, h5⟩ | ⟨rfl, u, h1, h2, rfl⟩)
        · exact ⟨w, u, by omega, h2, h3, h4, h5⟩
        · exact ⟨v, u, by omega, h1, rfl, rfl, h2⟩
      · rintro ⟨w, u, h1, h2, h3, h4, h5⟩
        by_cases e0 : w = v
        · subst e0
          exact .inr ⟨h3.symm, u, h2, h5, h4.symm⟩
        · exact .inl ⟨w, u, by omega, h2, h3, h4, h5⟩)
    refine ⟨A', H', ?_, z2, z3, y4.trans z4⟩
    obtain ⟨_, _, rfl⟩ := hx0
    obtain ⟨_, _, rfl⟩ := h5.len
    obtain ⟨_, _, rfl⟩ := h6.len
    obtain ⟨_, _, rfl⟩ := hx.len
    exact lp_next (f24_L0_0 (by omega) y1 (fit64 (by omega) (by omega))) z1

theorem c24 {G : List (List Int)} (hs : Short G) {vG : Value} (prot : Nat) {H : AHeap} (hg : Gr H vG G) :
    (chk G ≠ 0 ∧ callInf cfg 24 [vG] prot H = some (.tuple #[.slice none 0 0, .int .i64 (chk G)], H)) ∨
    (chk G = 0 ∧ ∃ x' H', callInf cfg 24 [vG] prot H = some (.tuple #[x', .int .i64 0], H') ∧ OwnS H' 39 8 x' (comp G).2 (sets (abv G) (comp G).2) H.length ∧ Stay none H H') := by
  have h26 := c26 hs H.length hg
  by_cases h : chk G = 0
  · refine .inr ⟨h, ?_⟩
    have hG := good_of hs h
    have h5 := hG.1
    have hn := comp_n G
    obtain ⟨yy, H1, w1, w2, w3⟩ := c42 hG H.length hg
    obtain ⟨y, H2, n1, n2, n4⟩ := c41 hG.1 H.length w2.rd
    obtain ⟨z8, hz8⟩ : ∃ z8 : List Value, z8 = [.int .u64 0, .int .u64 0, .int .u64 0, .int .u64 0, .int .u64 0, .int .u64 0, .int .u64 0, .int .u64 0] := ⟨_, rfl⟩
    have hz : z8 = List.replicate 8 (.int .u64 0) := by rw [hz8]; rfl
    obtain ⟨H3, hH3⟩ : ∃ H3, H3 = H2 ++ [AObj.cells (repCells z8 (comp G).2) 39 (repCells z8 (comp G).2).length .row] := ⟨_, rfl⟩
    have s3 : Stay none H2 H3 := by rw [hH3]; exact Stay.app none H2 _
    have hlen : H.length ≤ H2.length := Nat.le_trans w3.1 n4.1
    obtain ⟨ax, cx, hye⟩ := n2.rd.len
    obtain ⟨aw, cw, hyw⟩ := w2.rd.len
    have key : ∃ x6 H4, lpInf (lpOf cfg a24 0 prot H) ([vG, yy, y, .slice (some ⟨H2.length, 0, some ((comp G).2 * 8)⟩) (comp G).2 (comp G).2, .int .i64 0], H3) = some (.exit 0, [x6], H4) ∧ OwnS H4 39 8 x6 (comp G).2 (sets (abv G) (comp G).2) H.length := by
      by_cases h0 : 0 < (comp G).2
      · have m : Own H3 39 8 (.slice (some ⟨H2.length, 0, some ((comp G).2 * 8)⟩) (comp G).2 (comp G).2) (some H2.length) (comp G).2 (sets (fun _ => noS) (comp G).2) := by
          rw [sets_no, ← hz, hH3]
          have hl : (repCells z8 (comp G).2).length = (comp G).2 * 8 := by rw [hz, ← sets_no, sets_len]
          exact own_new hl h0 hl.symm rfl
        obtain ⟨A', H4, z1, z2, z3, z4⟩ := loop24o h5 hg.len (w2.rd.stay n4) n2.rd (Nat.le_refl _) (H0 := H) hlen (prot := prot) G.length 0 _ H3 (by omega) s3 m (fun c e => by
          constructor
          · intro h; cases h
          · rintro ⟨w, u, h1, _⟩; omega)
        refine ⟨_, H4, z1, .inl ⟨some H2.length, ?_, fun id e => by cases e; exact hlen⟩⟩
        rw [sets_congr (A := abv G) (B := A') _ (fun c _ i _ => by rw [Bool.eq_iff_iff, abv_iff, z3]; rfl)]
        exact z2
      · have hn0 : (comp G).2 = 0 := by omega
        have hG0 : G = [] := List.eq_nil_of_length_eq_zero (by
          rcases Nat.eq_zero_or_pos G.length with h | h
          · exact h
          · have := Lc_lt h; omega)
        rw [hn0] at hH3 ⊢
        subst hG0
        obtain ⟨aG, cG, rfl⟩ := hg.len
        subst hye; subst hyw
        refine ⟨_, H3, lp_last (f24_L0_1 (by decide)), .inr ⟨rfl, rfl, H2.length, rfl, hlen, ?_⟩⟩
        rw [hH3]
        exact append_get.1
    obtain ⟨x6, H4, z1, z2⟩ := key
    obtain ⟨x', H', g1, g2, g3⟩ := gcS (H := H) z2 (sets_plain _ _) (ps := [.int .i64 0]) rfl
    refine ⟨x', H', ?_, g2, g3⟩
    obtain ⟨aG, cG, rfl⟩ := hg.len
    subst hye; subst hyw
    obtain ⟨_, _, rfl⟩ := z2.rd.len
    subst hH3; subst hz8
    exact f24_F_1 _ _ h26 (by simp [h]) w1 n1 (by omega) rfl (by omega) (by omega) z1 (by rw [pfin_eq, if_neg (by simp [a24])]; exact g1)
  · refine .inl ⟨h, ?_⟩
    obtain ⟨aG, cG, rfl⟩ := hg.len
    exact f24_F_0 h26 (by simpa using h)

theorem loop28 {A : Nat → Nat → Bool} {n : Nat} (hn : n ≤ 512) {x y : Value} {H0 H : AHeap} {prot : Nat} (hx : Rd H 39 8 x n (sets A n)) (hy : Rd H 39 8 y n (sets A n)) : ∀ (d i : Nat), i + d = n →
    lpInf (lpOf cfg a28 0 prot H0) ([x, y, .int .i64 i], H) = some (.exit 0, [.tuple #[]], H)
  | 0, i, hi => by
    obtain ⟨_, _, rfl⟩ := hx.len
    obtain ⟨_, _, rfl⟩ := hy.len
    exact lp_last (f28_L0_2 (by omega))
  | d + 1, i, hi => by
    obtain ⟨i1, L1, p1, q1⟩ := sets_rdP hx (show i < n by omega)
    obtain ⟨i2, L2, p2, q2⟩ := sets_rdP hy (show i < n by omega)
    have ih := loop28 hn hx hy (H0 := H0) (prot := prot) d (i + 1) (by omega)
    obtain ⟨_, _, rfl⟩ := hx.len
    obtain ⟨_, _, rfl⟩ := hy.len
    exact lp_next (f28_L0_1 (x20 := setA (A i)) (x24 := setA (A i)) (by omega) p1 q1 p2 q2 (ne39 _) rfl (fit64 (by omega) (by omega))) ih
theorem c28 {A : Nat → Nat → Bool} {n : Nat} (hn : n ≤ 512) {x y : Value} (prot : Nat) {H : AHeap} (hx : Rd H 39 8 x n (sets A n)) (hy : Rd H 39 8 y n (sets A n)) : callInf cfg 28 [x, y] prot H = some (.bool true, H) := by
  have hl := loop28 hn hx hy (H0 := H) (prot := prot) n 0 (by omega)
  obtain ⟨_, _, rfl⟩ := hx.len
  obtain ⟨_, _, rfl⟩ := hy.len
  exact f28_F_1 (by simp) hl
end Go.Proofs.Ytkemihfaohkoeaa.Am11
set_option linter.unusedVariables false
open Go Go.Proofs.Ytkemihfaohkoeaa.Am
namespace Go.Proofs.Ytkemihfaohkoeaa.Am11
theorem f32_F_0 {x0a : Option Addr} {x0n x0c : Nat} {H : AHeap} {prot : Nat} {x6a : Option Addr} {x6n x6c : Nat} {H1 : AHeap} {x9a : Option Addr} {x9n x9c : Nat} {H2 : AHeap} {x13a : Option Addr} {x13n x13c : Nat} (rv : Value) (rH : AHeap) (h1 : aappend cfg.P (List.length H) true 34 34 (Value.slice (some { block := 0, off := 0 }) 0 0) (Value.slice x0a x0n x0c) H = some (Value.slice x6a x6n x6c, H1)) (h2 : aappend cfg.P (List.length H) true 34 34 (Value.slice x6a x6n x6c) (Value.slice (some ⟨List.length H1, 0, some (2 * 1)⟩) 2 2) (H1 ++ [wo [Value.int .i64 (-77), Value.int .i64 (-78)] 3]) = some (Value.slice x9a x9n x9c, H2)) (h3 : aslice cfg.P 34 (Value.slice x9a x9n x9c) none (some (Value.int .i64 (↑x0n : Int))) none H2 = some (Value.slice x13a x13n x13c)) (h4 : pfin a32 H [Value.slice x13a x13n x13c] H2 = (rv, rH)) : callInf cfg 32 [.slice x0a x0n x0c] prot H = some (rv, rH) :=
  fn_of2 a32 [.e, .r (.slice x6a x6n x6c) H1, .e, .r (.slice x9a x9n x9c) H2, .e, .v (.slice x13a x13n x13c)] (ai h1 (ai h2 (ai h3 h4))) (by kernel_rfl) rfl
end Go.Proofs.Ytkemihfaohkoeaa.Am11
set_option linter.unusedVariables false
open Go Go.Proofs.Ytkemihfaohkoeaa.Am
namespace Go.Proofs.Ytkemihfaohkoeaa.Am11
theorem f27_F_0 {x0a : Option Addr} {x0n x0c : Nat} {x1a : Option Addr} {x1n x1c : Nat} {H : AHeap} {prot : Nat} (h1 : ((↑x0n : Int) != (↑x1n : Int)) = true) : callInf cfg 27 [.slice x0a x0n x0c, .slice x1a x1n x1c] prot H = some (Value.bool false, H) :=
  fn_of2 a27 [.e, .e, .e, .b true] (ai h1 (Eq.refl ((Value.bool false, H) : Value × AHeap))) (by kernel_rfl) rfl
theorem f27_F_1 {x0a : Option Addr} {x0n x0c : Nat} {x1a : Option Addr} {x1n x1c : Nat} {H : AHeap} {prot : Nat} {z4 : Value} {H1 : AHeap} (h1 : ((↑x0n : Int) != (↑x1n : Int)) = false) (h2 : lpInf (lpOf cfg a27 0 prot H) ([Value.slice x0a x0n x0c, Value.slice x1a x1n x1c, Value.int .i64 0], H) = some (Ex.exit 0, [z4], H1)) : callInf cfg 27 [.slice x0a x0n x0c, .slice x1a x1n x1c] prot H = some (Value.bool true, H) :=
  fn_of2 a27 [.e, .e, .e, .b false, .lo (.exit 0, [z4], H1)] (ai h1 (ai h2 (Eq.refl ((Value.bool true, H) : Value × AHeap)))) (by kernel_rfl) rfl
theorem f27_F_2 {x0a : Option Addr} {x0n x0c : Nat} {x1a : Option Addr} {x1n x1c : Nat} {H : AHeap} {prot : Nat} {z4 : Bool} {H1 : AHeap} (h1 : ((↑x0n : Int) != (↑x1n : Int)) = false) (h2 : lpInf (lpOf cfg a27 0 prot H) ([Value.slice x0a x0n x0c, Value.slice x1a x1n x1c, Value.int .i64 0], H) = some (Ex.ret, [Value.bool z4], H1)) : callInf cfg 27 [.slice x0a x0n x0c, .slice x1a x1n x1c] prot H = some (Value.bool z4, H) :=
  fn_of2 a27 [.e, .e, .e, .b false, .lo (.ret, [.bool z4], H1)] (ai h1 (ai h2 (Eq.refl ((Value.bool z4, H) : Value × AHeap)))) (by kernel_rfl) rfl
theorem f27_L0_0 {x0a : Option Addr} {x0n x0c : Nat} {x1a : Option Addr} {x1n x1c : Nat} {x5 : Int} {H0 : AHeap} {prot : Nat} {H : AHeap} {x19p x19o x19l : Nat} {x20 : Int} {x23p x23o x23l : Nat} {x24 : Int} (h1 : x5 < (↑x0n : Int)) (h2 : aindexAddr cfg.P 34 (Value.slice x0a x0n x0c) (Value.int .i64 x5) = some (Value.pointer (some ⟨x19p, x19o, some x19l⟩))) (h3 : getCells H x19p x19l x19o 1 = some [Value.int .i64 x20]) (h4 : aindexAddr cfg.P 34 (Value.slice x1a x1n x1c) (Value.int .i64 x5) = some (Value.pointer (some ⟨x23p, x23o, some x23l⟩))) (h5 : getCells H x23p x23l x23o 1 = some [Value.int .i64 x24]) (h6 : (x20 != x24) = true) : lpOf cfg a27 0 prot H0 ([.slice x0a x0n x0c, .slice x1a x1n x1c, .int .i64 x5], H) = some (Sum.inr (Ex.ret, [Value.bool false], H)) :=
  lp_of2 [.e, .e, .b true, .v (.pointer (some ⟨x19p, x19o, some x19l⟩)), .v (.int .i64 x20), .v (.pointer (some ⟨x23p, x23o, some x23l⟩)), .v (.int .i64 x24), .e, .b true] (ai (decide_eq_true h1) (ai h2 (ai h3 (ai h4 (ai h5 (ai h6 (Eq.refl (Sum.inr (Ex.ret, [Value.bool false], H) : LS ⊕ LO)))))))) (by kernel_rfl)
theorem f27_L0_1 {x0a : Option Addr} {x0n x0c : Nat} {x1a : Option Addr} {x1n x1c : Nat} {x5 : Int} {H0 : AHeap} {prot : Nat} {H : AHeap} {x19p x19o x19l : Nat} {x20 : Int} {x23p x23o x23l : Nat} {x24 : Int} (h1 : x5 < (↑x0n : Int)) (h2 : aindexAddr cfg.P 34 (Value.slice x0a x0n x0c) (Value.int .i64 x5) = some (Value.pointer (some ⟨x19p, x19o, some x19l⟩))) (h3 : getCells H x19p x19l x19o 1 = some [Value.int .i64 x20]) (h4 : aindexAddr cfg.P 34 (Value.slice x1a x1n x1c) (Value.int .i64 x5) = some (Value.pointer (some ⟨x23p, x23o, some x23l⟩))) (h5 : getCells H x23p x23l x23o 1 = some [Value.int .i64 x24]) (h6 : (x20 != x24) = false) (h7 : Fit .i64 (x5 + 1)) : lpOf cfg a27 0 prot H0 ([.slice x0a x0n x0c, .slice x1a x1n x1c, .int .i64 x5], H) = some (Sum.inl ([Value.slice x0a x0n x0c, Value.slice x1a x1n x1c, Value.int .i64 (x5 + 1)], H)) :=
  lp_of2 [.e, .e, .b true, .v (.pointer (some ⟨x19p, x19o, some x19l⟩)), .v (.int .i64 x20), .v (.pointer (some ⟨x23p, x23o, some x23l⟩)), .v (.int .i64 x24), .e, .b false, .e] (ai (decide_eq_true h1) (ai h2 (ai h3 (ai h4 (ai h5 (ai h6 (ai h7 (Eq.refl (Sum.inl ([Value.slice x0a x0n x0c, Value.slice x1a x1n x1c, Value.int .i64 (x5 + 1)], H) : LS ⊕ LO))))))))) (by kernel_rfl)
theorem f27_L0_2 {x0a : Option Addr} {x0n x0c : Nat} {x1a : Option Addr} {x1n x1c : Nat} {x5 : Int} {H0 : AHeap} {prot : Nat} {H : AHeap} (h1 : ¬(x5 < (↑x0n : Int))) : lpOf cfg a27 0 prot H0 ([.slice x0a x0n x0c, .slice x1a x1n x1c, .int .i64 x5], H) = some (Sum.inr (Ex.exit 0, [Value.tuple { toList := [] }], H)) :=
  lp_of2 [.e, .e, .b false] (ai (decide_eq_false h1) (Eq.refl (Sum.inr (Ex.exit 0, [Value.tuple { toList := [] }], H) : LS ⊕ LO))) (by kernel_rfl)
end Go.Proofs.Ytkemihfaohkoeaa.Am11
set_option linter.unusedVariables false
open Go Go.Proofs.Ytkemihfaohkoeaa.Am
namespace Go.Proofs.Ytkemihfaohkoeaa.Am11
theorem f35_F_0 {x0a : Option Addr} {x0n x0c : Nat} {x1a : Option Addr} {x1n x1c : Nat} {H : AHeap} {prot : Nat} {x10a : Option Addr} {x10n x10c : Nat} {x14a : Option Addr} {x14n x14c : Nat} {x16 : Bool} {x21p x21o x21l : Nat} {x22 : Int} {x30p x30o x30l : Nat} {x31 : Int} (h1 : Fit .i64 ((↑x1n : Int) + 2)) (h2 : aslice cfg.P 34 (Value.slice x0a x0n x0c) none (some (Value.int .i64 ((↑x1n : Int) + 2))) none H = some (Value.slice x10a x10n x10c)) (h3 : aslice cfg.P 34 (Value.slice x10a x10n x10c) none (some (Value.int .i64 (↑x1n : Int))) none H = some (Value.slice x14a x14n x14c)) (h4 : callInf cfg 27 [Value.slice x14a x14n x14c, Value.slice x1a x1n x1c] (List.length H) H = some (Value.bool x16, H)) (h5 : x16 = true) (h6 : aindexAddr cfg.P 34 (Value.slice x10a x10n x10c) (Value.int .i64 (↑x1n : Int)) = some (Value.pointer (some ⟨x21p, x21o, some x21l⟩))) (h7 : getCells H x21p x21l x21o 1 = some [Value.int .i64 x22]) (h8 : (x22 == -77) = true) (h9 : Fit .i64 ((↑x1n : Int) + 1)) (h10 : aindexAddr cfg.P 34 (Value.slice x10a x10n x10c) (Value.int .i64 ((↑x1n : Int) + 1)) = some (Value.pointer (some ⟨x30p, x30o, some x30l⟩))) (h11 : getCells H x30p x30l x30o 1 = some [Value.int .i64 x31]) : callInf cfg 35 [.slice x0a x0n x0c, .slice x1a x1n x1c] prot H = some (Value.bool (x31 == -78), H) :=
  fn_of2 a35 [.e, .e, .v (.slice x10a x10n x10c), .e, .v (.slice x14a x14n x14c), .v (.bool x16), .b true, .b true, .b true, .e, .b true, .v (.pointer (some ⟨x21p, x21o, some x21l⟩)), .b true, .v (.int .i64 x22), .b true, .e, .b true, .b true, .b true, .b true, .e, .b true, .e, .b true, .v (.pointer (some ⟨x30p, x30o, some x30l⟩)), .b true, .v (.int .i64 x31), .b true, .e, .b true] (ai h1 (ai h2 (ai h3 (ai h4 (ai h5 (ai h5 (ai h5 (ai h5 (ai h6 (ai h5 (ai h7 (ai h5 (ai h5 (ai h8 (ai h8 (ai h8 (ai h8 (ai h9 (ai h8 (ai h10 (ai h8 (ai h11 (ai h8 (ai h8 (Eq.refl ((Value.bool (x31 == -78), H) : Value × AHeap)))))))))))))))))))))))))) (by kernel_rfl) rfl
end Go.Proofs.Ytkemihfaohkoeaa.Am11
namespace Go.Proofs.Ytkemihfaohkoeaa.Am11
open Go Go.Proofs.Ytkemihfaohkoeaa.Am
def lentC (l : List Int) : List Value := il l ++ [.int .i64 (-77), .int .i64 (-78)]
/-- A list that was lent. -/
structure LR (H : AHeap) (r : Value) (l : List Int) (id : Nat) : Prop where
  e : r = .slice (some ⟨id, 0, some (l.length + 2)⟩) l.length (l.length + 2)
  g : ∃ wr md, wr ≤ l.length + 2 ∧ H[id]? = some (.cells (lentC l) 3 wr md)
theorem lentC_len (l) : (lentC l).length = l.length + 2 := by simp [lentC, il]
theorem LR.rd {H : AHeap} {r : Value} {l : List Int} {id : Nat} (h : LR H r l id) : Rd H 3 1 r l.length (il l) := by
  obtain ⟨wr, md, h1, h2⟩ := h.g
  refine ⟨by simp [il], .inr ⟨id, l.length + 2, wr, md, _, lentC l, h.e, h1, by rw [lentC_len]; exact Nat.le_refl _, by omega, h2, ?_⟩⟩
  unfold lentC
  rw [List.take_append_of_le_length (by simp [il]), List.take_of_length_le (by simp [il])]
theorem LR.stay {H H' : AHeap} {r : Value} {l : List Int} {id : Nat} (h : LR H r l id) {o : Option Nat} (k : Stay o H H') (ho : o ≠ some id) : LR H' r l id := by
  obtain ⟨wr, md, h1, h2⟩ := h.g
  exact ⟨h.e, wr, md, h1, by rw [k.2 id (List.getElem?_eq_some_iff.1 h2).1 ho]; exact h2⟩
theorem c32 {l : List Int} {x : Value} (hn : l.length * 8 + 16 ≤ 140737488355328) (prot : Nat) (H : AHeap) (hx : Rd H 3 1 x l.length (il l)) :
    ∃ r H', callInf cfg 32 [x] prot H = some (r, H') ∧ LR H' r l H.length ∧ Stay none H H' ∧ H'.length = H.length + 1 := by
  obtain ⟨aN, cN, rfl⟩ := hx.len
  obtain ⟨a, c, o, H1, q1, q2, q3, q4, q5⟩ := own_grow T34 (.inr rfl) hx (il_cell _) (prot := H.length) (room := true) (by omega)
  obtain ⟨HY, hHY⟩ : ∃ HY, HY = H1 ++ [AObj.cells [.int .i64 (-77), .int .i64 (-78)] 3 2 .row] := ⟨_, rfl⟩
  have hY : Rd HY 3 1 (.slice (some ⟨H1.length, 0, some (2 * 1)⟩) 2 2) 2 [.int .i64 (-77), .int .i64 (-78)] := by rw [hHY]; exact (own_new rfl (by omega) rfl rfl).rd
  have sY : Stay none H1 HY := by rw [hHY]; exact Stay.app none H1 _
  obtain ⟨o', H2, r1, r2, r3, r4, r5⟩ := own_appR T34 (q2.stay sY (fun id _ h => by cases h)) hY (by omega) rfl (prot := H.length) (room := true) q4 (by omega)
  have ho' : H.length ≤ o' := by
    cases o with
    | none => rw [r5 rfl]; have := q3.1; have := sY.1; omega
    | some id => rw [r4 id rfl]; exact q4 id rfl
  obtain ⟨h1, h2, h3, wr, h4, h5⟩ := r2
  have hlen := lentC_len l
  have hpf : gc H [.slice (some ⟨o', 0, some (lentC l).length⟩) l.length (l.length + 2)] H2 = (.slice (some ⟨H.length, 0, some (lentC l).length⟩) l.length (l.length + 2), H ++ [.cells (lentC l) 3 wr .row]) := by
    unfold gc
    have hnd : noDup (sliceIds [.slice (some ⟨o', 0, some (lentC l).length⟩) l.length (l.length + 2)]) = true := rfl
    rw [if_pos hnd]
    have h5' : H2[o']? = some (.cells (lentC l) 3 wr .row) := h5
    have hall : (lentC l).all plain0 = true := by unfold lentC; rw [List.all_append, il_plain]; rfl
    simp only [keepAll, keep1]
    rw [if_neg (by omega), h5']
    simp [hall]
    rfl
  rw [hlen] at hpf
  refine ⟨_, _, ?_, ⟨rfl, wr, .row, by rw [← hlen]; exact h4, append_get.1⟩, Stay.app none H _, by simp⟩
  have hsl : aslice cfg.P 34 (.slice (some ⟨o', 0, some ((l.length + 2) * 1)⟩) (l.length + 2) (l.length + 2)) none (some (.int .i64 (l.length : Int))) none H2 = some (.slice (some ⟨o', 0, some (l.length + 2)⟩) l.length (l.length + 2)) := by
    unfold aslice
    simp only [T34.un, boundOf, Option.bind_some, T34.sz]
    rw [if_pos (by omega)]
    simp
  subst hHY
  exact f32_F_0 _ _ q1 r1 hsl (by rw [pfin_eq]; exact hpf)

/-- Are lists the same? -/
theorem loop27 {l m : List Int} (hlm : l.length = m.length) (hl : l.length ≤ 140737488355328) {x y : Value} {H0 H : AHeap} {prot : Nat} (hx : Rd H 3 1 x l.length (il l)) (hy : Rd H 3 1 y m.length (il m)) : ∀ (d i : Nat), i + d = l.length →
    lpInf (lpOf cfg a27 0 prot H0) ([x, y, .int .i64 i], H) = some (if l.drop i = m.drop i then (.exit 0, [.tuple #[]], H) else (.ret, [.bool false], H))
  | 0, i, hi => by
    rw [List.drop_of_length_le (by omega), List.drop_of_length_le (by omega), if_pos rfl]
    obtain ⟨_, _, rfl⟩ := hx.len
    obtain ⟨_, _, rfl⟩ := hy.len
    exact lp_last (f27_L0_2 (by omega))
  | d + 1, i, hi => by
    have h1 : i < l.length := by omega
    have h2 : i < m.length := by omega
    obtain ⟨i1, L1, p1, q1⟩ := rd_at T34 hx (il_get h1)
    obtain ⟨i2, L2, p2, q2⟩ := rd_at T34 hy (il_get h2)
    have ih := loop27 hlm hl hx hy (H0 := H0) (prot := prot) d (i + 1) (by omega)
    rw [List.drop_eq_getElem_cons h1, List.drop_eq_getElem_cons h2]
    obtain ⟨_, _, rfl⟩ := hx.len
    obtain ⟨_, _, rfl⟩ := hy.len
    by_cases e : l[i] = m[i]
    · rw [e] at q1
      have e2 : (if l[i] :: l.drop (i + 1) = m[i] :: m.drop (i + 1) then ((Ex.exit 0, [Value.tuple #[]], H) : Ex × List Value × AHeap) else (.ret, [.bool false], H)) = (if l.drop (i + 1) = m.drop (i + 1) then (.exit 0, [.tuple #[]], H) else (.ret, [.bool false], H)) := by
        by_cases hh : l.drop (i + 1) = m.drop (i + 1)
        · rw [if_pos hh, if_pos (by rw [e, hh])]
        · rw [if_neg hh, if_neg (fun h => hh (List.cons.inj h).2)]
      rw [e2]
      exact lp_next (f27_L0_1 (by omega) p1 q1 p2 q2 (by simp) (fit64 (by omega) (by omega))) ih
    · rw [if_neg (by intro h; exact e (List.cons.inj h).1)]
      exact lp_last (f27_L0_0 (by omega) p1 q1 p2 q2 (by simpa using e))
theorem c27 {l m : List Int} (hl : l.length ≤ 140737488355328) {x y : Value} (prot : Nat) {H : AHeap} (hx : Rd H 3 1 x l.length (il l)) (hy : Rd H 3 1 y m.length (il m)) :
    callInf cfg 27 [x, y] prot H = some (.bool (decide (l = m)), H) := by
  have h := hx.len
  have h' := hy.len
  by_cases e : l.length = m.length
  · have hlp := loop27 e hl hx hy (H0 := H) (prot := prot) l.length 0 (by omega)
    simp only [List.drop_zero] at hlp
    obtain ⟨_, _, rfl⟩ := h
    obtain ⟨_, _, rfl⟩ := h'
    by_cases e2 : l = m
    · rw [if_pos e2] at hlp
      rw [decide_eq_true e2]
      exact f27_F_1 (by simp [e]) hlp
    · rw [if_neg e2] at hlp
      rw [decide_eq_false e2]
      exact f27_F_2 (by simp [e]) hlp
  · rw [decide_eq_false (fun h => e (by rw [h]))]
    obtain ⟨_, _, rfl⟩ := h
    obtain ⟨_, _, rfl⟩ := h'
    exact f27_F_0 (by simp; omega)

/-- Is it as it was? -/
theorem c35 {l : List Int} (hl : l.length * 8 + 16 ≤ 140737488355328) {x y : Value} {id : Nat} (prot : Nat) {H : AHeap} (hx : LR H x l id) (hy : Rd H 3 1 y l.length (il l)) :
    callInf cfg 35 [x, y] prot H = some (.bool true, H) := by
  obtain ⟨wr, md, h1, h2⟩ := hx.g
  have hrd := hx.rd
  have hxe := hx.e
  have s1 : aslice cfg.P 34 x none (some (.int .i64 ((l.length : Int) + 2))) none H = some (.slice (some ⟨id, 0, some (l.length + 2)⟩) (l.length + 2) (l.length + 2)) := by
    rw [hxe]
    unfold aslice
    simp only [T34.un, boundOf, Option.bind_some, T34.sz]
    rw [if_pos (by omega)]
    simp only [Option.bind_some]
    rw [if_pos (by omega), if_pos (by omega)]
    simp
    omega
  have s2 : aslice cfg.P 34 (.slice (some ⟨id, 0, some (l.length + 2)⟩) (l.length + 2) (l.length + 2)) none (some (.int .i64 (l.length : Int))) none H = some x := by
    rw [hxe]
    unfold aslice
    simp only [T34.un, boundOf, Option.bind_some, T34.sz]
    rw [if_pos (by omega)]
    simp
  have hall : Rd H 3 1 (.slice (some ⟨id, 0, some (l.length + 2)⟩) (l.length + 2) (l.length + 2)) (l.length + 2) (lentC l) :=
    ⟨by rw [lentC_len]; omega, .inr ⟨id, l.length + 2, wr, md, _, lentC l, rfl, h1, by rw [lentC_len]; exact Nat.le_refl _, by omega, h2, by rw [List.take_of_length_le (by rw [lentC_len]; omega)]⟩⟩
  have g1 : (lentC l)[l.length]? = some (.int .i64 (-77)) := by unfold lentC; rw [List.getElem?_append_right (by simp [il])]; simp [il]
  have g2 : (lentC l)[l.length + 1]? = some (.int .i64 (-78)) := by unfold lentC; rw [List.getElem?_append_right (by simp [il])]; simp [il]
  obtain ⟨i1, L1, p1, q1⟩ := rd_at T34 hall g1
  obtain ⟨i2, L2, p2, q2⟩ := rd_at T34 hall g2
  have h27 := c27 (by omega) H.length hrd hy
  rw [decide_eq_true rfl] at h27
  obtain ⟨_, _, rfl⟩ := hy.len
  subst hxe
  exact f35_F_0 (x31 := -78) (fit64 (by omega) (by omega)) s1 s2 h27 rfl p1 q1 rfl (fit64 (by omega) (by omega)) (by exact_mod_cast p2) q2
end Go.Proofs.Ytkemihfaohkoeaa.Am11
set_option linter.unusedVariables false
open Go Go.Proofs.Ytkemihfaohkoeaa.Am
namespace Go.Proofs.Ytkemihfaohkoeaa.Am11
theorem f9_F_0 {x0a : Option Addr} {x0n x0c : Nat} {H : AHeap} {prot : Nat} {z3a : Option Addr} {z3n z3c : Nat} {H1 : AHeap} (rv : Value) (rH : AHeap) (h1 : lpInf (lpOf cfg a9 0 prot H) ([Value.slice x0a x0n x0c, Value.slice none 0 0, Value.int .i64 0], H) = some (Ex.exit 0, [Value.slice z3a z3n z3c], H1)) (h2 : pfin a9 H [Value.slice z3a z3n z3c] H1 = (rv, rH)) : callInf cfg 9 [.slice x0a x0n x0c] prot H = some (rv, rH) :=
  fn_of2 a9 [.lo (.exit 0, [.slice z3a z3n z3c], H1)] (ai h1 h2) (by kernel_rfl) rfl
theorem f9_L0_0 {x0a : Option Addr} {x0n x0c : Nat} {x3a : Option Addr} {x3n x3c : Nat} {x4 : Int} {H0 : AHeap} {prot : Nat} {H : AHeap} {x14p x14o x14l : Nat} {x15a : Option Addr} {x15n x15c : Nat} {x16a : Option Addr} {x16n x16c : Nat} {H2 : AHeap} {x18a : Option Addr} {x18n x18c : Nat} {H3 : AHeap} (h1 : x4 < (↑x0n : Int)) (h2 : aindexAddr cfg.P 22 (Value.slice x0a x0n x0c) (Value.int .i64 x4) = some (Value.pointer (some ⟨x14p, x14o, some x14l⟩))) (h3 : getCells H x14p x14l x14o 1 = some [Value.slice x15a x15n x15c]) (h4 : callInf cfg 32 [Value.slice x15a x15n x15c] (List.length H0) H = some (Value.slice x16a x16n x16c, H2)) (h5 : aappend cfg.P (List.length H0) true 22 22 (Value.slice x3a x3n x3c) (Value.slice (some ⟨List.length H2, 0, some (1 * 1)⟩) 1 1) (H2 ++ [wo [Value.slice x16a x16n x16c] 34]) = some (Value.slice x18a x18n x18c, H3)) (h6 : Fit .i64 (x4 + 1)) : lpOf cfg a9 0 prot H0 ([.slice x0a x0n x0c, .slice x3a x3n x3c, .int .i64 x4], H) = some (Sum.inl ([Value.slice x0a x0n x0c, Value.slice x18a x18n x18c, Value.int .i64 (x4 + 1)], H3)) :=
  lp_of2 [.e, .e, .b true, .v (.pointer (some ⟨x14p, x14o, some x14l⟩)), .v (.slice x15a x15n x15c), .r (.slice x16a x16n x16c) H2, .e, .r (.slice x18a x18n x18c) H3, .e] (ai (decide_eq_true h1) (ai h2 (ai h3 (ai h4 (ai h5 (ai h6 (Eq.refl (Sum.inl ([Value.slice x0a x0n x0c, Value.slice x18a x18n x18c, Value.int .i64 (x4 + 1)], H3) : LS ⊕ LO)))))))) (by kernel_rfl)
theorem f9_L0_1 {x0a : Option Addr} {x0n x0c : Nat} {x3a : Option Addr} {x3n x3c : Nat} {x4 : Int} {H0 : AHeap} {prot : Nat} {H : AHeap} (h1 : ¬(x4 < (↑x0n : Int))) : lpOf cfg a9 0 prot H0 ([.slice x0a x0n x0c, .slice x3a x3n x3c, .int .i64 x4], H) = some (Sum.inr (Ex.exit 0, [Value.slice x3a x3n x3c], H)) :=
  lp_of2 [.e, .e, .b false] (ai (decide_eq_false h1) (Eq.refl (Sum.inr (Ex.exit 0, [Value.slice x3a x3n x3c], H) : LS ⊕ LO))) (by kernel_rfl)
end Go.Proofs.Ytkemihfaohkoeaa.Am11
set_option linter.unusedVariables false
open Go Go.Proofs.Ytkemihfaohkoeaa.Am
namespace Go.Proofs.Ytkemihfaohkoeaa.Am11
theorem f14_F_0 {x0a : Option Addr} {x0n x0c : Nat} {x1a : Option Addr} {x1n x1c : Nat} {H : AHeap} {prot : Nat} {z0a : Option Addr} {z0n z0c : Nat} {z1a : Option Addr} {z1n z1c : Nat} {z4 : Value} {H1 : AHeap} (h1 : lpInf (lpOf cfg a14 0 prot H) ([Value.slice x0a x0n x0c, Value.slice x1a x1n x1c, Value.int .i64 0], H) = some (Ex.exit 0, [Value.slice z0a z0n z0c, Value.slice z1a z1n z1c, z4], H1)) : callInf cfg 14 [.slice x0a x0n x0c, .slice x1a x1n x1c] prot H = some (Value.bool ((↑z0n : Int) == (↑z1n : Int)), H) :=
  fn_of2 a14 [.lo (.exit 0, [.slice z0a z0n z0c, .slice z1a z1n z1c, z4], H1), .e, .e, .e] (ai h1 (Eq.refl ((Value.bool ((↑z0n : Int) == (↑z1n : Int)), H) : Value × AHeap))) (by kernel_rfl) rfl
theorem f14_L0_0 {x0a : Option Addr} {x0n x0c : Nat} {x1a : Option Addr} {x1n x1c : Nat} {x5 : Int} {H0 : AHeap} {prot : Nat} {H : AHeap} {x14p x14o x14l : Nat} {x15a : Option Addr} {x15n x15c x18p x18o x18l : Nat} {x19a : Option Addr} {x19n x19c : Nat} {x20 : Bool} (h1 : x5 < (↑x1n : Int)) (h2 : aindexAddr cfg.P 22 (Value.slice x0a x0n x0c) (Value.int .i64 x5) = some (Value.pointer (some ⟨x14p, x14o, some x14l⟩))) (h3 : getCells H x14p x14l x14o 1 = some [Value.slice x15a x15n x15c]) (h4 : aindexAddr cfg.P 22 (Value.slice x1a x1n x1c) (Value.int .i64 x5) = some (Value.pointer (some ⟨x18p, x18o, some x18l⟩))) (h5 : getCells H x18p x18l x18o 1 = some [Value.slice x19a x19n x19c]) (h6 : callInf cfg 35 [Value.slice x15a x15n x15c, Value.slice x19a x19n x19c] (List.length H0) H = some (Value.bool x20, H)) (h7 : (!x20) = false) (h8 : Fit .i64 (x5 + 1)) : lpOf cfg a14 0 prot H0 ([.slice x0a x0n x0c, .slice x1a x1n x1c, .int .i64 x5], H) = some (Sum.inl ([Value.slice x0a x0n x0c, Value.slice x1a x1n x1c, Value.int .i64 (x5 + 1)], H)) :=
  lp_of2 [.e, .e, .b true, .v (.pointer (some ⟨x14p, x14o, some x14l⟩)), .v (.slice x15a x15n x15c), .v (.pointer (some ⟨x18p, x18o, some x18l⟩)), .v (.slice x19a x19n x19c), .v (.bool x20), .e, .b false, .e] (ai (decide_eq_true h1) (ai h2 (ai h3 (ai h4 (ai h5 (ai h6 (ai h7 (ai h8 (Eq.refl (Sum.inl ([Value.slice x0a x0n x0c, Value.slice x1a x1n x1c, Value.int .i64 (x5 + 1)], H) : LS ⊕ LO)))))))))) (by kernel_rfl)
theorem f14_L0_2 {x0a : Option Addr} {x0n x0c : Nat} {x1a : Option Addr} {x1n x1c : Nat} {x5 : Int} {H0 : AHeap} {prot : Nat} {H : AHeap} (h1 : ¬(x5 < (↑x1n : Int))) : lpOf cfg a14 0 prot H0 ([.slice x0a x0n x0c, .slice x1a x1n x1c, .int .i64 x5], H) = some (Sum.inr (Ex.exit 0, [Value.slice x0a x0n x0c, Value.slice x1a x1n x1c, Value.tuple { toList := [] }], H)) :=
  lp_of2 [.e, .e, .b false] (ai (decide_eq_false h1) (Eq.refl (Sum.inr (Ex.exit 0, [Value.slice x0a x0n x0c, Value.slice x1a x1n x1c, Value.tuple { toList := [] }], H) : LS ⊕ LO))) (by kernel_rfl)
end Go.Proofs.Ytkemihfaohkoeaa.Am11
namespace Go.Proofs.Ytkemihfaohkoeaa.Am11
open Go Go.Proofs.Ytkemihfaohkoeaa.Am
/-- A graph that was lent. -/
structure LG (H : AHeap) (x : Value) (G : List (List Int)) : Prop where
  ex : ∃ cs, Rd H 34 1 x G.length cs ∧ ∀ (i : Nat) (l : List Int), G[i]? = some l → ∃ r id, cs[i]? = some r ∧ LR H r l id
theorem LG.gr {H : AHeap} {x : Value} {G : List (List Int)} (h : LG H x G) : Gr H x G := by
  obtain ⟨cs, h1, h2⟩ := h.ex
  exact ⟨cs, h1, fun i l hl => by obtain ⟨r, id, a, b⟩ := h2 i l hl; exact ⟨r, a, b.rd⟩⟩
theorem LG.stay {H H' : AHeap} {x : Value} {G : List (List Int)} (h : LG H x G) (s : Stay none H H') : LG H' x G := by
  obtain ⟨cs, h1, h2⟩ := h.ex
  exact ⟨cs, h1.stay s, fun i l hl => by obtain ⟨r, id, a, b⟩ := h2 i l hl; exact ⟨r, id, a, b.stay s (by simp)⟩⟩
theorem LR.lt {H : AHeap} {r : Value} {l : List Int} {id : Nat} (h : LR H r l id) : id < H.length := by
  obtain ⟨_, _, _, h2⟩ := h.g
  exact (List.getElem?_eq_some_iff.1 h2).1
theorem loop9 {G : List (List Int)} {H0 : AHeap} {x0 : Value} (hg : Gr H0 x0 G) (hs : Short8 G) {prot : Nat} : ∀ (d v : Nat) (x4 : Value) (o4 : Option Nat) (cs : List Value) (H : AHeap), v + d = G.length → Stay none H0 H → Own H 34 1 x4 o4 v cs → (∀ id, o4 = some id → H0.length ≤ id) →
    (∀ (j : Nat) (l : List Int), j < v → G[j]? = some l → ∃ r id, cs[j]? = some r ∧ LR H r l id ∧ o4 ≠ some id) →
    ∃ x' o' cs' H', lpInf (lpOf cfg a9 0 prot H0) ([x0, x4, .int .i64 v], H) = some (.exit 0, [x'], H') ∧ Stay none H0 H' ∧ Own H' 34 1 x' o' G.length cs' ∧ (∀ id, o' = some id → H0.length ≤ id) ∧
      (∀ (j : Nat) (l : List Int), j < G.length → G[j]? = some l → ∃ r id, cs'[j]? = some r ∧ LR H' r l id)
  | 0, v, x4, o4, cs, H, hv, hst, hx, ho, hr => by
    have he : v = G.length := by omega
    subst he
    refine ⟨x4, o4, cs, H, ?_, hst, hx, ho, fun j l hj hl => by obtain ⟨r, id, a, b, _⟩ := hr j l hj hl; exact ⟨r, id, a, b⟩⟩
    obtain ⟨_, _, rfl⟩ := hg.len
    obtain ⟨_, _, rfl⟩ := hx.len
    exact lp_last (f9_L0_1 (by omega))
  | d + 1, v, x4, o4, cs, H, hv, hst, hx, ho, hr => by
    have hvG : v < G.length := by omega
    have hlv := hs.2 _ (List.getElem_mem hvG)
    have hl1 := hst.1
    obtain ⟨id0, L0, r0, a1, a2, a3⟩ := (hg.stay hst).row hvG
    obtain ⟨x6, H2, u1, u2, u4, u5⟩ := c32 hlv H0.length H a3
    have hx2 := hx.stay u4 (fun _ _ h => by cases h)
    have l2 := u4.1
    have h6 := u2.e
    have hcell : [x6].all isCell = true := by rw [h6]; rfl
    have hsl := hs.1
    obtain ⟨a', c', o', H3, s1, s2, s3, s4, s5, s6⟩ := own_app T22 hx2 (ecs := [x6]) rfl hcell (prot := H0.length) (room := true) ho (by omega) (by omega) (L := 1 * 1) rfl (el := [x6].length) rfl
    have hol : ∀ id, o4 = some id → id < H.length := fun id h => by
      rw [h] at hx
      exact (List.getElem?_eq_some_iff.1 hx.2.2.2.choose_spec.2).1
    have hcl : cs.length = v := by have := hx.1; omega
    obtain ⟨x', o2, cs', H', z1, z2, z3, z4, z5⟩ := loop9 hg hs (prot := prot) d (v + 1) _ (some o') (cs ++ [x6]) H3 (by omega) ((hst.trans u4).over s3 ho) s2 (fun id h => by cases h; exact s4) (fun j l hj hl => by
      by_cases he : j = v
      · subst he
        rw [List.getElem?_eq_getElem hvG] at hl
        cases hl
        refine ⟨x6, H.length, by rw [List.getElem?_append_right (by omega), hcl, Nat.sub_self]; rfl, u2.stay s3 (fun h => by have := hol _ h; omega), fun h => ?_⟩
        have h := Option.some.inj h
        cases hh : o4 with
        | none => have := s5 hh; omega
        | some k => have := s6 k hh; have := hol k hh; omega
      · obtain ⟨r, id, r1, r2, r3⟩ := hr j l (by omega) hl
        have hlow := r2.lt
        refine ⟨r, id, by rw [List.getElem?_append_left (by omega)]; exact r1, (r2.stay u4 (by simp)).stay s3 r3, fun h => ?_⟩
        have h := Option.some.inj h
        cases hh : o4 with
        | none => have := s5 hh; omega
        | some k => have := s6 k hh; exact r3 (by rw [hh, ← this, h]))
    refine ⟨x', o2, cs', H', ?_, z2, z3, z4, z5⟩
    obtain ⟨_, _, rfl⟩ := hg.len
    obtain ⟨_, _, rfl⟩ := hx.len
    obtain ⟨_, _, rfl⟩ := a3.len
    subst h6
    exact lp_next (f9_L0_0 (by omega) a1 a2 u1 s1 (fit64 (by omega) (by omega))) z1

theorem c9 {G : List (List Int)} (hs : Short8 G) {x0 : Value} (prot : Nat) {H : AHeap} (hg : Gr H x0 G) : ∃ x' H', callInf cfg 9 [x0] prot H = some (x', H') ∧ LG H' x' G ∧ Stay none H H' := by
  obtain ⟨x', o', cs', H', z1, z2, z3, z4, z5⟩ := loop9 hg hs (prot := prot) G.length 0 (.slice none 0 0) none [] H (by omega) (Stay.refl _ _) own_nil (fun id h => by cases h) (fun j l hj => by omega)
  obtain ⟨aG, cG, rfl⟩ := hg.len
  have hz3 := z3
  obtain ⟨ax, cx, hxe⟩ := z3.len
  cases ho : o' with
  | none =>
    rw [ho] at hz3
    have h0 : G.length = 0 := hz3.2.1
    have hG0 : G = [] := List.eq_nil_of_length_eq_zero (by omega)
    have hpf : pfin a9 H [x'] H' = (x', H) := by
      rw [pfin_eq, if_neg (by simp [a9])]
      rcases hz3.2.2 with hx | hx
      · rw [hx]; exact gc_plain rfl
      · rw [hx]; rfl
    refine ⟨x', H, ?_, ⟨[], ?_, fun i l hl => ?_⟩, Stay.refl _ _⟩
    · rw [hxe] at z1 hpf ⊢; exact f9_F_0 _ _ z1 hpf
    · subst hG0; exact ⟨rfl, .inl ⟨rfl, hz3.2.2⟩⟩
    · subst hG0; simp at hl
  | some id =>
    rw [ho] at hz3
    have hpos : 0 < G.length := hz3.2.1
    have hnp : cs'.all plain0 = false := by
      obtain ⟨r, id2, a, b⟩ := z5 0 _ (by omega) (List.getElem?_eq_getElem hpos)
      rw [Bool.eq_false_iff]
      intro h
      have := List.all_eq_true.1 h r (List.mem_of_getElem? a)
      rw [b.e] at this
      cases this
    have hpf : pfin a9 H [x'] H' = (x', H') := by
      rw [pfin_eq, if_neg (by simp [a9])]; exact gc_not hz3 hnp
    refine ⟨x', H', ?_, ⟨cs', z3.rd, fun i l hl => ?_⟩, z2⟩
    · rw [hxe] at z1 hpf ⊢; exact f9_F_0 _ _ z1 hpf
    · exact z5 i l (List.getElem?_eq_some_iff.1 hl).1 hl

theorem loop14 {G : List (List Int)} (hs : Short8 G) {x y : Value} {H0 H : AHeap} {prot : Nat} (hx : LG H x G) (hy : Gr H y G) : ∀ (d i : Nat), i + d = G.length →
    lpInf (lpOf cfg a14 0 prot H0) ([x, y, .int .i64 i], H) = some (.exit 0, [x, y, .tuple #[]], H)
  | 0, i, hi => by
    obtain ⟨_, _, rfl⟩ := hx.gr.len
    obtain ⟨_, _, rfl⟩ := hy.len
    exact lp_last (f14_L0_2 (by omega))
  | d + 1, i, hi => by
    have hil : i < G.length := by omega
    have hgl := hs.1
    obtain ⟨id2, L2, r2, p2, q2, k2⟩ := hy.row hil
    obtain ⟨cs, h1, h2⟩ := hx.ex
    obtain ⟨r, id, a, b⟩ := h2 i _ (List.getElem?_eq_getElem hil)
    obtain ⟨id1, L1, p1, q1⟩ := rd_at T22 h1 a
    have h35 := c35 (hs.2 _ (List.getElem_mem hil)) H0.length b k2
    have ih := loop14 hs hx hy (H0 := H0) (prot := prot) d (i + 1) (by omega)
    have he := b.e
    obtain ⟨_, _, rfl⟩ := hx.gr.len
    obtain ⟨_, _, rfl⟩ := hy.len
    obtain ⟨_, _, rfl⟩ := k2.len
    subst he
    exact lp_next (f14_L0_0 (by omega) p1 q1 p2 q2 h35 rfl (fit64 (by omega) (by omega))) ih
theorem c14 {G : List (List Int)} (hs : Short8 G) {x y : Value} (prot : Nat) {H : AHeap} (hx : LG H x G) (hy : Gr H y G) :
    callInf cfg 14 [x, y] prot H = some (.bool true, H) := by
  have h := loop14 hs hx hy (H0 := H) (prot := prot) G.length 0 (by omega)
  obtain ⟨_, _, rfl⟩ := hx.gr.len
  obtain ⟨_, _, rfl⟩ := hy.len
  have := f14_F_0 h
  simpa using this
end Go.Proofs.Ytkemihfaohkoeaa.Am11
set_option linter.unusedVariables false
open Go Go.Proofs.Ytkemihfaohkoeaa.Am
namespace Go.Proofs.Ytkemihfaohkoeaa.Am11
theorem f15_F_0 {x0a : Option Addr} {x0n x0c : Nat} {H : AHeap} {prot : Nat} {z0a : Option Addr} {z0n z0c : Nat} {z3a : Option Addr} {z3n z3c : Nat} {H1 : AHeap} {z0a_2 : Option Addr} {z0n_2 z0c_2 : Nat} {z3a_2 : Option Addr} {z3n_2 z3c_2 : Nat} {H2 : AHeap} {z2 : Value} {H3 : AHeap} (h1 : lpInf (lpOf cfg a15 0 prot H) ([Value.slice x0a x0n x0c, Value.slice none 0 0, Value.int .i64 0], H) = some (Ex.exit 0, [Value.slice z0a z0n z0c, Value.slice z3a z3n z3c], H1)) (h2 : lpInf (lpOf cfg a15 2 prot H) ([Value.slice z0a z0n z0c, Value.slice z3a z3n z3c, Value.int .i64 0], H1) = some (Ex.exit 4, [Value.slice z0a_2 z0n_2 z0c_2, Value.slice z3a_2 z3n_2 z3c_2], H2)) (h3 : lpInf (lpOf cfg a15 4 prot H) ([Value.slice z0a_2 z0n_2 z0c_2, Value.slice z3a_2 z3n_2 z3c_2, Value.int .i64 0], H2) = some (Ex.exit 8, [z2], H3)) : callInf cfg 15 [.slice x0a x0n x0c] prot H = some (Value.bool true, H3) :=
  fn_of2 a15 [.lo (.exit 0, [.slice z0a z0n z0c, .slice z3a z3n z3c], H1), .lo (.exit 4, [.slice z0a_2 z0n_2 z0c_2, .slice z3a_2 z3n_2 z3c_2], H2), .lo (.exit 8, [z2], H3)] (ai h1 (ai h2 (ai h3 (Eq.refl ((Value.bool true, H3) : Value × AHeap))))) (by kernel_rfl) rfl
theorem f15_L0_0 {x0a : Option Addr} {x0n x0c : Nat} {x3a : Option Addr} {x3n x3c : Nat} {x4 : Int} {H0 : AHeap} {prot : Nat} {H : AHeap} {z0a : Option Addr} {z0n z0c : Nat} {z3a : Option Addr} {z3n z3c : Nat} {z4 : Int} {H2 : AHeap} (h1 : x4 < (↑x0n : Int)) (h2 : lpInf (lpOf cfg a15 1 prot H0) ([Value.slice x0a x0n x0c, Value.slice x3a x3n x3c, Value.int .i64 x4, Value.int .i64 0], H) = some (Ex.exit 2, [Value.slice z0a z0n z0c, Value.slice z3a z3n z3c, Value.int .i64 z4], H2)) (h3 : Fit .i64 (z4 + 1)) : lpOf cfg a15 0 prot H0 ([.slice x0a x0n x0c, .slice x3a x3n x3c, .int .i64 x4], H) = some (Sum.inl ([Value.slice z0a z0n z0c, Value.slice z3a z3n z3c, Value.int .i64 (z4 + 1)], H2)) :=
  lp_of2 [.e, .e, .b true, .lo (.exit 2, [.slice z0a z0n z0c, .slice z3a z3n z3c, .int .i64 z4], H2), .e] (ai (decide_eq_true h1) (ai h2 (ai h3 (Eq.refl (Sum.inl ([Value.slice z0a z0n z0c, Value.slice z3a z3n z3c, Value.int .i64 (z4 + 1)], H2) : LS ⊕ LO))))) (by kernel_rfl)
theorem f15_L0_1 {x0a : Option Addr} {x0n x0c : Nat} {x3a : Option Addr} {x3n x3c : Nat} {x4 : Int} {H0 : AHeap} {prot : Nat} {H : AHeap} (h1 : ¬(x4 < (↑x0n : Int))) : lpOf cfg a15 0 prot H0 ([.slice x0a x0n x0c, .slice x3a x3n x3c, .int .i64 x4], H) = some (Sum.inr (Ex.exit 0, [Value.slice x0a x0n x0c, Value.slice x3a x3n x3c], H)) :=
  lp_of2 [.e, .e, .b false] (ai (decide_eq_false h1) (Eq.refl (Sum.inr (Ex.exit 0, [Value.slice x0a x0n x0c, Value.slice x3a x3n x3c], H) : LS ⊕ LO))) (by kernel_rfl)
theorem f15_L1_0 {x0a : Option Addr} {x0n x0c : Nat} {x3a : Option Addr} {x3n x3c : Nat} {x4 x5 : Int} {H0 : AHeap} {prot : Nat} {H : AHeap} {x20p x20o x20l : Nat} {x21a : Option Addr} {x21n x21c x28p x28o x28l : Nat} {x29a : Option Addr} {x29n x29c x33p x33o x33l : Nat} {H2 : AHeap} (h1 : aindexAddr cfg.P 22 (Value.slice x0a x0n x0c) (Value.int .i64 x4) = some (Value.pointer (some ⟨x20p, x20o, some x20l⟩))) (h2 : getCells H x20p x20l x20o 1 = some [Value.slice x21a x21n x21c]) (h3 : x5 < (↑x21n : Int)) (h4 : aindexAddr cfg.P 22 (Value.slice x0a x0n x0c) (Value.int .i64 x4) = some (Value.pointer (some ⟨x28p, x28o, some x28l⟩))) (h5 : getCells H x28p x28l x28o 1 = some [Value.slice x29a x29n x29c]) (h6 : Fit .i64 (1000 + x4)) (h7 : aindexAddr cfg.P 34 (Value.slice x29a x29n x29c) (Value.int .i64 x5) = some (Value.pointer (some ⟨x33p, x33o, some x33l⟩))) (h8 : [Value.int .i64 (1000 + x4)].length = 1) (h9 : setCells H prot x33p x33l x33o [Value.int .i64 (1000 + x4)] = some H2) (h10 : Fit .i64 (x5 + 1)) : lpOf cfg a15 1 prot H0 ([.slice x0a x0n x0c, .slice x3a x3n x3c, .int .i64 x4, .int .i64 x5], H) = some (Sum.inl ([Value.slice x0a x0n x0c, Value.slice x3a x3n x3c, Value.int .i64 x4, Value.int .i64 (x5 + 1)], H2)) :=
  lp_of2 [.v (.pointer (some ⟨x20p, x20o, some x20l⟩)), .v (.slice x21a x21n x21c), .e, .e, .b true, .v (.pointer (some ⟨x28p, x28o, some x28l⟩)), .v (.slice x29a x29n x29c), .e, .v (.pointer (some ⟨x33p, x33o, some x33l⟩)), .h H2, .e] (ai h1 (ai h2 (ai (decide_eq_true h3) (ai h4 (ai h5 (ai h6 (ai h7 (ai h8 (ai h9 (ai h10 (Eq.refl (Sum.inl ([Value.slice x0a x0n x0c, Value.slice x3a x3n x3c, Value.int .i64 x4, Value.int .i64 (x5 + 1)], H2) : LS ⊕ LO)))))))))))) (by kernel_rfl)
theorem f15_L1_1 {x0a : Option Addr} {x0n x0c : Nat} {x3a : Option Addr} {x3n x3c : Nat} {x4 x5 : Int} {H0 : AHeap} {prot : Nat} {H : AHeap} {x20p x20o x20l : Nat} {x21a : Option Addr} {x21n x21c : Nat} (h1 : aindexAddr cfg.P 22 (Value.slice x0a x0n x0c) (Value.int .i64 x4) = some (Value.pointer (some ⟨x20p, x20o, some x20l⟩))) (h2 : getCells H x20p x20l x20o 1 = some [Value.slice x21a x21n x21c]) (h3 : ¬(x5 < (↑x21n : Int))) : lpOf cfg a15 1 prot H0 ([.slice x0a x0n x0c, .slice x3a x3n x3c, .int .i64 x4, .int .i64 x5], H) = some (Sum.inr (Ex.exit 2, [Value.slice x0a x0n x0c, Value.slice x3a x3n x3c, Value.int .i64 x4], H)) :=
  lp_of2 [.v (.pointer (some ⟨x20p, x20o, some x20l⟩)), .v (.slice x21a x21n x21c), .e, .e, .b false] (ai h1 (ai h2 (ai (decide_eq_false h3) (Eq.refl (Sum.inr (Ex.exit 2, [Value.slice x0a x0n x0c, Value.slice x3a x3n x3c, Value.int .i64 x4], H) : LS ⊕ LO))))) (by kernel_rfl)
theorem f15_L2_0 {x0a : Option Addr} {x0n x0c : Nat} {x3a : Option Addr} {x3n x3c : Nat} {x6 : Int} {H0 : AHeap} {prot : Nat} {H : AHeap} {x42p x42o x42l : Nat} {x43a : Option Addr} {x43n x43c : Nat} {z0a : Option Addr} {z0n z0c : Nat} {z3a : Option Addr} {z3n z3c : Nat} {z6 : Int} {z7a : Option Addr} {z7n z7c : Nat} {H2 : AHeap} {x56a : Option Addr} {x56n x56c : Nat} {H3 : AHeap} (h1 : x6 < (↑x0n : Int)) (h2 : aindexAddr cfg.P 22 (Value.slice x0a x0n x0c) (Value.int .i64 x6) = some (Value.pointer (some ⟨x42p, x42o, some x42l⟩))) (h3 : getCells H x42p x42l x42o 1 = some [Value.slice x43a x43n x43c]) (h4 : lpInf (lpOf cfg a15 3 prot H0) ([Value.slice x0a x0n x0c, Value.slice x3a x3n x3c, Value.int .i64 x6, Value.slice x43a x43n x43c, Value.int .i64 0], H) = some (Ex.exit 6, [Value.slice z0a z0n z0c, Value.slice z3a z3n z3c, Value.int .i64 z6, Value.slice z7a z7n z7c], H2)) (h5 : aappend cfg.P prot true 22 22 (Value.slice z3a z3n z3c) (Value.slice (some ⟨List.length H2, 0, some (1 * 1)⟩) 1 1) (H2 ++ [wo [Value.slice z7a z7n z7c] 34]) = some (Value.slice x56a x56n x56c, H3)) (h6 : Fit .i64 (z6 + 1)) : lpOf cfg a15 2 prot H0 ([.slice x0a x0n x0c, .slice x3a x3n x3c, .int .i64 x6], H) = some (Sum.inl ([Value.slice z0a z0n z0c, Value.slice x56a x56n x56c, Value.int .i64 (z6 + 1)], H3)) :=
  lp_of2 [.e, .e, .b true, .v (.pointer (some ⟨x42p, x42o, some x42l⟩)), .v (.slice x43a x43n x43c), .lo (.exit 6, [.slice z0a z0n z0c, .slice z3a z3n z3c, .int .i64 z6, .slice z7a z7n z7c], H2), .e, .r (.slice x56a x56n x56c) H3, .e] (ai (decide_eq_true h1) (ai h2 (ai h3 (ai h4 (ai h5 (ai h6 (Eq.refl (Sum.inl ([Value.slice z0a z0n z0c, Value.slice x56a x56n x56c, Value.int .i64 (z6 + 1)], H3) : LS ⊕ LO)))))))) (by kernel_rfl)
theorem f15_L2_1 {x0a : Option Addr} {x0n x0c : Nat} {x3a : Option Addr} {x3n x3c : Nat} {x6 : Int} {H0 : AHeap} {prot : Nat} {H : AHeap} (h1 : ¬(x6 < (↑x0n : Int))) : lpOf cfg a15 2 prot H0 ([.slice x0a x0n x0c, .slice x3a x3n x3c, .int .i64 x6], H) = some (Sum.inr (Ex.exit 4, [Value.slice x0a x0n x0c, Value.slice x3a x3n x3c], H)) :=
  lp_of2 [.e, .e, .b false] (ai (decide_eq_false h1) (Eq.refl (Sum.inr (Ex.exit 4, [Value.slice x0a x0n x0c, Value.slice x3a x3n x3c], H) : LS ⊕ LO))) (by kernel_rfl)
theorem f15_L3_0 {x0a : Option Addr} {x0n x0c : Nat} {x3a : Option Addr} {x3n x3c : Nat} {x6 : Int} {x7a : Option Addr} {x7n x7c : Nat} {x8 : Int} {H0 : AHeap} {prot : Nat} {H : AHeap} {x52a : Option Addr} {x52n x52c : Nat} {H2 : AHeap} (h1 : x8 < 40) (h2 : Fit .i64 (2000 + x6)) (h3 : aappend cfg.P prot true 34 34 (Value.slice x7a x7n x7c) (Value.slice (some ⟨List.length H, 0, some (1 * 1)⟩) 1 1) (H ++ [wo [Value.int .i64 (2000 + x6)] 3]) = some (Value.slice x52a x52n x52c, H2)) (h4 : Fit .i64 (x8 + 1)) : lpOf cfg a15 3 prot H0 ([.slice x0a x0n x0c, .slice x3a x3n x3c, .int .i64 x6, .slice x7a x7n x7c, .int .i64 x8], H) = some (Sum.inl ([Value.slice x0a x0n x0c, Value.slice x3a x3n x3c, Value.int .i64 x6, Value.slice x52a x52n x52c, Value.int .i64 (x8 + 1)], H2)) :=
  lp_of2 [.e, .b true, .e, .e, .r (.slice x52a x52n x52c) H2, .e] (ai (decide_eq_true h1) (ai h2 (ai h3 (ai h4 (Eq.refl (Sum.inl ([Value.slice x0a x0n x0c, Value.slice x3a x3n x3c, Value.int .i64 x6, Value.slice x52a x52n x52c, Value.int .i64 (x8 + 1)], H2) : LS ⊕ LO)))))) (by kernel_rfl)
theorem f15_L3_1 {x0a : Option Addr} {x0n x0c : Nat} {x3a : Option Addr} {x3n x3c : Nat} {x6 : Int} {x7a : Option Addr} {x7n x7c : Nat} {x8 : Int} {H0 : AHeap} {prot : Nat} {H : AHeap} (h1 : ¬(x8 < 40)) : lpOf cfg a15 3 prot H0 ([.slice x0a x0n x0c, .slice x3a x3n x3c, .int .i64 x6, .slice x7a x7n x7c, .int .i64 x8], H) = some (Sum.inr (Ex.exit 6, [Value.slice x0a x0n x0c, Value.slice x3a x3n x3c, Value.int .i64 x6, Value.slice x7a x7n x7c], H)) :=
  lp_of2 [.e, .b false] (ai (decide_eq_false h1) (Eq.refl (Sum.inr (Ex.exit 6, [Value.slice x0a x0n x0c, Value.slice x3a x3n x3c, Value.int .i64 x6, Value.slice x7a x7n x7c], H) : LS ⊕ LO))) (by kernel_rfl)
theorem f15_L4_0 {x0a : Option Addr} {x0n x0c : Nat} {x3a : Option Addr} {x3n x3c : Nat} {x9 : Int} {H0 : AHeap} {prot : Nat} {H : AHeap} {z0a : Option Addr} {z0n z0c : Nat} {z2 : Value} {z3a : Option Addr} {z3n z3c : Nat} {z9 : Int} {H2 : AHeap} (h1 : x9 < (↑x0n : Int)) (h2 : lpInf (lpOf cfg a15 5 prot H0) ([Value.slice x0a x0n x0c, Value.slice x3a x3n x3c, Value.int .i64 x9, Value.int .i64 0], H) = some (Ex.exit 10, [Value.slice z0a z0n z0c, z2, Value.slice z3a z3n z3c, Value.int .i64 z9], H2)) (h3 : Fit .i64 (z9 + 1)) : lpOf cfg a15 4 prot H0 ([.slice x0a x0n x0c, .slice x3a x3n x3c, .int .i64 x9], H) = some (Sum.inl ([Value.slice z0a z0n z0c, Value.slice z3a z3n z3c, Value.int .i64 (z9 + 1)], H2)) :=
  lp_of2 [.e, .e, .b true, .lo (.exit 10, [.slice z0a z0n z0c, z2, .slice z3a z3n z3c, .int .i64 z9], H2), .e] (ai (decide_eq_true h1) (ai h2 (ai h3 (Eq.refl (Sum.inl ([Value.slice z0a z0n z0c, Value.slice z3a z3n z3c, Value.int .i64 (z9 + 1)], H2) : LS ⊕ LO))))) (by kernel_rfl)
theorem f15_L4_2 {x0a : Option Addr} {x0n x0c : Nat} {x3a : Option Addr} {x3n x3c : Nat} {x9 : Int} {H0 : AHeap} {prot : Nat} {H : AHeap} (h1 : ¬(x9 < (↑x0n : Int))) : lpOf cfg a15 4 prot H0 ([.slice x0a x0n x0c, .slice x3a x3n x3c, .int .i64 x9], H) = some (Sum.inr (Ex.exit 8, [Value.tuple { toList := [] }], H)) :=
  lp_of2 [.e, .e, .b false] (ai (decide_eq_false h1) (Eq.refl (Sum.inr (Ex.exit 8, [Value.tuple { toList := [] }], H) : LS ⊕ LO))) (by kernel_rfl)
theorem f15_L5_4 {x0a : Option Addr} {x0n x0c : Nat} {x3a : Option Addr} {x3n x3c : Nat} {x9 x10 : Int} {H0 : AHeap} {prot : Nat} {H : AHeap} {x66p x66o x66l : Nat} {x67a : Option Addr} {x67n x67c x75p x75o x75l : Nat} {x76a : Option Addr} {x76n x76c x82p x82o x82l : Nat} {x83a : Option Addr} {x83n x83c x85p x85o x85l : Nat} {x86 : Int} {x93p x93o x93l : Nat} {x94a : Option Addr} {x94n x94c x96p x96o x96l : Nat} {x97 : Int} {x107p x107o x107l : Nat} {x108a : Option Addr} {x108n x108c : Nat} (h1 : aindexAddr cfg.P 22 (Value.slice x3a x3n x3c) (Value.int .i64 x9) = some (Value.pointer (some ⟨x66p, x66o, some x66l⟩))) (h2 : getCells H x66p x66l x66o 1 = some [Value.slice x67a x67n x67c]) (h3 : x10 < (↑x67n : Int)) (h4 : aindexAddr cfg.P 22 (Value.slice x0a x0n x0c) (Value.int .i64 x9) = some (Value.pointer (some ⟨x75p, x75o, some x75l⟩))) (h5 : getCells H x75p x75l x75o 1 = some [Value.slice x76a x76n x76c]) (h6 : x10 < (↑x76n : Int)) (h7 : aindexAddr cfg.P 22 (Value.slice x0a x0n x0c) (Value.int .i64 x9) = some (Value.pointer (some ⟨x82p, x82o, some x82l⟩))) (h8 : getCells H x82p x82l x82o 1 = some [Value.slice x83a x83n x83c]) (h9 : aindexAddr cfg.P 34 (Value.slice x83a x83n x83c) (Value.int .i64 x10) = some (Value.pointer (some ⟨x85p, x85o, some x85l⟩))) (h10 : getCells H x85p x85l x85o 1 = some [Value.int .i64 x86]) (h11 : Fit .i64 (1000 + x9)) (h12 : (x86 != 1000 + x9) = false) (h13 : aindexAddr cfg.P 22 (Value.slice x3a x3n x3c) (Value.int .i64 x9) = some (Value.pointer (some ⟨x93p, x93o, some x93l⟩))) (h14 : getCells H x93p x93l x93o 1 = some [Value.slice x94a x94n x94c]) (h15 : aindexAddr cfg.P 34 (Value.slice x94a x94n x94c) (Value.int .i64 x10) = some (Value.pointer (some ⟨x96p, x96o, some x96l⟩))) (h16 : getCells H x96p x96l x96o 1 = some [Value.int .i64 x97]) (h17 : (x97 != 1000 + x9) = false) (h18 : aindexAddr cfg.P 22 (Value.slice x0a x0n x0c) (Value.int .i64 x9) = some (Value.pointer (some ⟨x107p, x107o, some x107l⟩))) (h19 : getCells H x107p x107l x107o 1 = some [Value.slice x108a x108n x108c]) (h20 : ¬(x10 ≥ (↑x108n : Int))) (h21 : Fit .i64 (x10 + 1)) : lpOf cfg a15 5 prot H0 ([.slice x0a x0n x0c, .slice x3a x3n x3c, .int .i64 x9, .int .i64 x10], H) = some (Sum.inl ([Value.slice x0a x0n x0c, Value.slice x3a x3n x3c, Value.int .i64 x9, Value.int .i64 (x10 + 1)], H)) :=
  lp_of2 [.v (.pointer (some ⟨x66p, x66o, some x66l⟩)), .v (.slice x67a x67n x67c), .e, .e, .b true, .v (.pointer (some ⟨x75p, x75o, some x75l⟩)), .v (.slice x76a x76n x76c), .e, .e, .b true, .b true, .b true, .v (.pointer (some ⟨x82p, x82o, some x82l⟩)), .b true, .v (.slice x83a x83n x83c), .b true, .b true, .v (.pointer (some ⟨x85p, x85o, some x85l⟩)), .b true, .v (.int .i64 x86), .b true, .b true, .e, .b true, .e, .b true, .b false, .b false, .b false, .v (.pointer (some ⟨x93p, x93o, some x93l⟩)), .b false, .v (.slice x94a x94n x94c), .b false, .b false, .v (.pointer (some ⟨x96p, x96o, some x96l⟩)), .b false, .v (.int .i64 x97), .b false, .b false, .e, .b false, .e, .b true, .b false, .b true, .b false, .b false, .b false, .b false, .v (.pointer (some ⟨x107p, x107o, some x107l⟩)), .b false, .v (.slice x108a x108n x108c), .b false, .e, .b false, .e, .b false, .b false, .b false, .b false, .b false, .b false, .b false, .b false, .b false, .b false, .b false, .b false, .b false, .b false, .b false, .e] (ai h1 (ai h2 (ai (decide_eq_true h3) (ai h4 (ai h5 (ai (decide_eq_true h6) (ai (decide_eq_true h6) (ai (decide_eq_true h6) (ai h7 (ai (decide_eq_true h6) (ai h8 (ai (decide_eq_true h6) (ai (decide_eq_true h6) (ai h9 (ai (decide_eq_true h6) (ai h10 (ai (decide_eq_true h6) (ai (decide_eq_true h6) (ai h11 (ai (decide_eq_true h6) (ai (decide_eq_true h6) (ai h12 (ai h12 (ai h12 (ai h13 (ai h12 (ai h14 (ai h12 (ai h12 (ai h15 (ai h12 (ai h16 (ai h12 (ai h12 (ai h11 (ai h12 (ai (decide_eq_true h6) (ai h12 (ai (decide_eq_true h6) (ai h17 (ai h17 (ai h17 (ai h17 (ai h18 (ai h17 (ai h19 (ai h17 (ai h17 (ai h17 (ai (decide_eq_false h20) (ai (decide_eq_false h20) (ai (decide_eq_false h20) (ai (decide_eq_false h20) (ai (decide_eq_false h20) (ai (decide_eq_false h20) (ai (decide_eq_false h20) (ai (decide_eq_false h20) (ai (decide_eq_false h20) (ai (decide_eq_false h20) (ai h17 (ai (decide_eq_false h20) (ai h17 (ai (Eq.refl false) (ai h21 (Eq.refl (Sum.inl ([Value.slice x0a x0n x0c, Value.slice x3a x3n x3c, Value.int .i64 x9, Value.int .i64 (x10 + 1)], H) : LS ⊕ LO)))))))))))))))))))))))))))))))))))))))))))))))))))))))))))))))))) (by kernel_rfl)
theorem f15_L5_6 {x0a : Option Addr} {x0n x0c : Nat} {x3a : Option Addr} {x3n x3c : Nat} {x9 x10 : Int} {H0 : AHeap} {prot : Nat} {H : AHeap} {x66p x66o x66l : Nat} {x67a : Option Addr} {x67n x67c x75p x75o x75l : Nat} {x76a : Option Addr} {x76n x76c x107p x107o x107l : Nat} {x108a : Option Addr} {x108n x108c x114p x114o x114l : Nat} {x115a : Option Addr} {x115n x115c x117p x117o x117l : Nat} {x118 : Int} (h1 : aindexAddr cfg.P 22 (Value.slice x3a x3n x3c) (Value.int .i64 x9) = some (Value.pointer (some ⟨x66p, x66o, some x66l⟩))) (h2 : getCells H x66p x66l x66o 1 = some [Value.slice x67a x67n x67c]) (h3 : x10 < (↑x67n : Int)) (h4 : aindexAddr cfg.P 22 (Value.slice x0a x0n x0c) (Value.int .i64 x9) = some (Value.pointer (some ⟨x75p, x75o, some x75l⟩))) (h5 : getCells H x75p x75l x75o 1 = some [Value.slice x76a x76n x76c]) (h6 : ¬(x10 < (↑x76n : Int))) (h7 : aindexAddr cfg.P 22 (Value.slice x0a x0n x0c) (Value.int .i64 x9) = some (Value.pointer (some ⟨x107p, x107o, some x107l⟩))) (h8 : getCells H x107p x107l x107o 1 = some [Value.slice x108a x108n x108c]) (h9 : x10 ≥ (↑x108n : Int)) (h10 : aindexAddr cfg.P 22 (Value.slice x3a x3n x3c) (Value.int .i64 x9) = some (Value.pointer (some ⟨x114p, x114o, some x114l⟩))) (h11 : getCells H x114p x114l x114o 1 = some [Value.slice x115a x115n x115c]) (h12 : aindexAddr cfg.P 34 (Value.slice x115a x115n x115c) (Value.int .i64 x10) = some (Value.pointer (some ⟨x117p, x117o, some x117l⟩))) (h13 : getCells H x117p x117l x117o 1 = some [Value.int .i64 x118]) (h14 : Fit .i64 (2000 + x9)) (h15 : (x118 != 2000 + x9) = false) (h16 : Fit .i64 (x10 + 1)) : lpOf cfg a15 5 prot H0 ([.slice x0a x0n x0c, .slice x3a x3n x3c, .int .i64 x9, .int .i64 x10], H) = some (Sum.inl ([Value.slice x0a x0n x0c, Value.slice x3a x3n x3c, Value.int .i64 x9, Value.int .i64 (x10 + 1)], H)) :=
  lp_of2 [.v (.pointer (some ⟨x66p, x66o, some x66l⟩)), .v (.slice x67a x67n x67c), .e, .e, .b true, .v (.pointer (some ⟨x75p, x75o, some x75l⟩)), .v (.slice x76a x76n x76c), .e, .e, .b false, .b false, .b false, .b false, .b false, .b false, .b false, .b false, .b false, .b false, .b false, .b false, .b false, .b false, .b false, .b false, .b false, .v (.pointer (some ⟨x107p, x107o, some x107l⟩)), .b false, .v (.slice x108a x108n x108c), .b false, .e, .b false, .e, .b false, .b true, .b true, .b true, .v (.pointer (some ⟨x114p, x114o, some x114l⟩)), .b true, .v (.slice x115a x115n x115c), .b true, .b true, .v (.pointer (some ⟨x117p, x117o, some x117l⟩)), .b true, .v (.int .i64 x118), .b true, .b true, .e, .b true, .e, .b false, .b true, .b false, .b false, .e] (ai h1 (ai h2 (ai (decide_eq_true h3) (ai h4 (ai h5 (ai (decide_eq_false h6) (ai (decide_eq_false h6) (ai (decide_eq_false h6) (ai (decide_eq_false h6) (ai (decide_eq_false h6) (ai (decide_eq_false h6) (ai (decide_eq_false h6) (ai (decide_eq_false h6) (ai (decide_eq_false h6) (ai (decide_eq_false h6) (ai (decide_eq_false h6) (ai (decide_eq_false h6) (ai (decide_eq_false h6) (ai (Eq.refl false) (ai (Eq.refl false) (ai (Eq.refl false) (ai (Eq.refl false) (ai h7 (ai (Eq.refl false) (ai h8 (ai (Eq.refl false) (ai (Eq.refl false) (ai (Eq.refl false) (ai (decide_eq_true h9) (ai (decide_eq_true h9) (ai (decide_eq_true h9) (ai h10 (ai (decide_eq_true h9) (ai h11 (ai (decide_eq_true h9) (ai (decide_eq_true h9) (ai h12 (ai (decide_eq_true h9) (ai h13 (ai (decide_eq_true h9) (ai (decide_eq_true h9) (ai h14 (ai (decide_eq_true h9) (ai (Eq.refl false) (ai (decide_eq_true h9) (ai (Eq.refl false) (ai h15 (ai h16 (Eq.refl (Sum.inl ([Value.slice x0a x0n x0c, Value.slice x3a x3n x3c, Value.int .i64 x9, Value.int .i64 (x10 + 1)], H) : LS ⊕ LO)))))))))))))))))))))))))))))))))))))))))))))))))) (by kernel_rfl)
theorem f15_L5_8 {x0a : Option Addr} {x0n x0c : Nat} {x3a : Option Addr} {x3n x3c : Nat} {x9 x10 : Int} {H0 : AHeap} {prot : Nat} {H : AHeap} {x66p x66o x66l : Nat} {x67a : Option Addr} {x67n x67c : Nat} (h1 : aindexAddr cfg.P 22 (Value.slice x3a x3n x3c) (Value.int .i64 x9) = some (Value.pointer (some ⟨x66p, x66o, some x66l⟩))) (h2 : getCells H x66p x66l x66o 1 = some [Value.slice x67a x67n x67c]) (h3 : ¬(x10 < (↑x67n : Int))) : lpOf cfg a15 5 prot H0 ([.slice x0a x0n x0c, .slice x3a x3n x3c, .int .i64 x9, .int .i64 x10], H) = some (Sum.inr (Ex.exit 10, [Value.slice x0a x0n x0c, Value.tuple { toList := [] }, Value.slice x3a x3n x3c, Value.int .i64 x9], H)) :=
  lp_of2 [.v (.pointer (some ⟨x66p, x66o, some x66l⟩)), .v (.slice x67a x67n x67c), .e, .e, .b false] (ai h1 (ai h2 (ai (decide_eq_false h3) (Eq.refl (Sum.inr (Ex.exit 10, [Value.slice x0a x0n x0c, Value.tuple { toList := [] }, Value.slice x3a x3n x3c, Value.int .i64 x9], H) : LS ⊕ LO))))) (by kernel_rfl)
end Go.Proofs.Ytkemihfaohkoeaa.Am11
namespace Go.Proofs.Ytkemihfaohkoeaa.Am11
open Go Go.Proofs.Ytkemihfaohkoeaa.Am
/-- Rows of one's own, listed. -/
structure Rows (H : AHeap) (x0 : Value) (N : Nat) (r : Nat → Value) (n : Nat → Nat) (o : Nat → Option Nat) (V : Nat → List Int) : Prop where
  rd : ∃ cs, Rd H 34 1 x0 N cs ∧ ∀ j, j < N → cs[j]? = some (r j)
  rx : ∀ j, j < N → RX H 3 (r j) (n j) (o j) (il (V j))
theorem rows_at {H : AHeap} {x0 : Value} {N : Nat} {r : Nat → Value} (h : ∃ cs, Rd H 34 1 x0 N cs ∧ ∀ j, j < N → cs[j]? = some (r j)) {i : Nat} (hi : i < N) : ∃ id L, aindexAddr cfg.P 22 x0 (.int .i64 (i : Nat)) = some (.pointer (some ⟨id, i, some L⟩)) ∧ getCells H id L i 1 = some [r i] := by
  obtain ⟨cs, h1, h2⟩ := h
  exact rd_at T22 h1 (h2 i hi)
theorem rows_len {H : AHeap} {x0 : Value} {N : Nat} {r : Nat → Value} (h : ∃ cs, Rd H 34 1 x0 N cs ∧ ∀ j, j < N → cs[j]? = some (r j)) : ∃ a c, x0 = .slice a N c := by
  obtain ⟨cs, h1, _⟩ := h
  exact h1.len
theorem il_set (l : List Int) (k : Nat) (c : Int) : (il l).set k (.int .i64 c) = il (l.set k c) := by unfold il; rw [List.map_set]
/-- No two of them are one. -/
def Dis (N : Nat) (o : Nat → Option Nat) : Prop := ∀ i j, i < N → j < N → i ≠ j → ∀ a, o i = some a → o j ≠ some a
theorem Rows.set {H : AHeap} {x0 : Value} {N : Nat} {r : Nat → Value} {n : Nat → Nat} {o : Nat → Option Nat} {V : Nat → List Int} (h : Rows H x0 N r n o V) (hD : Dis N o) {i k : Nat} (hi : i < N) (hk : k < n i) (c : Int) {prot : Nat} (hp : ∀ j, j < N → ∀ a, o j = some a → prot ≤ a) :
    ∃ id H', aindexAddr cfg.P 34 (r i) (.int .i64 (k : Nat)) = some (.pointer (some ⟨id, k, some (n i)⟩)) ∧ setCells H prot id (n i) k [.int .i64 c] = some H' ∧ Rows H' x0 N r n o (fun j => if j = i then (V i).set k c else V j) ∧ H'.length = H.length := by
  obtain ⟨id, H', e, a1, a2, a3, a4, l, wr, a5⟩ := (h.rx i hi).set T34 hk (v := .int .i64 c) rfl (hp i hi)
  refine ⟨id, H', a1, a2, ⟨?_, fun j hj => ?_⟩, ?_⟩
  · obtain ⟨cs, h1, h2⟩ := h.rd
    exact ⟨cs, h1.stayE a5 (by decide) a4, h2⟩
  · by_cases e1 : j = i
    · subst e1
      rw [if_pos rfl, ← il_set]
      exact a3
    · rw [if_neg e1]
      exact (h.rx j hj).stay a4 (fun b hb e2 => hD i j hi hj (fun e => e1 e.symm) id e (by rw [hb]; exact e2.symm))
  · unfold setCells at a2
    rw [a5] at a2
    simp only at a2
    split at a2
    · cases a2; simp
    · cases a2

theorem loop15b {x0 x3 : Value} {N : Nat} {r : Nat → Value} {n : Nat → Nat} {o : Nat → Option Nat} (hD : Dis N o) {prot : Nat} (hp : ∀ j, j < N → ∀ a, o j = some a → prot ≤ a) (hN : N ≤ 1000000) {H0 : AHeap} (h3 : ∃ a m c, x3 = .slice a m c) {i : Nat} (hi : i < N) (hn : n i ≤ 1000000000) : ∀ (d k : Nat) (V : Nat → List Int) (rest : List Int) (H : AHeap), k + d = n i → Rows H x0 N r n o V → V i = List.replicate k (1000 + (i : Int)) ++ rest → rest.length = d →
    ∃ V' H', lpInf (lpOf cfg a15 1 prot H0) ([x0, x3, .int .i64 i, .int .i64 k], H) = some (.exit 2, [x0, x3, .int .i64 i], H') ∧ Rows H' x0 N r n o V' ∧ V' i = List.replicate (n i) (1000 + (i : Int)) ∧ (∀ j, j ≠ i → V' j = V j) ∧ H'.length = H.length
  | 0, k, V, rest, H, hk, hr, hV, hl => by
    obtain ⟨id, L, a1, a2⟩ := rows_at hr.rd hi
    refine ⟨V, H, ?_, hr, ?_, fun _ _ => rfl, rfl⟩
    · obtain ⟨_, _, rfl⟩ := rows_len hr.rd
      obtain ⟨_, _, _, rfl⟩ := h3
      obtain ⟨ra, rc, hre⟩ := (hr.rx i hi).len
      rw [hre] at a2
      exact lp_last (f15_L1_1 a1 a2 (by omega))
    · rw [hV, List.eq_nil_of_length_eq_zero hl, List.append_nil]
      congr 1
  | d + 1, k, V, rest, H, hk, hr, hV, hl => by
    obtain ⟨id, L, a1, a2⟩ := rows_at hr.rd hi
    obtain ⟨id2, H2, b1, b2, b3, b4⟩ := hr.set hD hi (k := k) (by omega) (1000 + (i : Int)) hp
    cases rest with
    | nil => simp at hl
    | cons y rest =>
      obtain ⟨V', H', z1, z2, z3, z4, z5⟩ := loop15b hD hp hN (H0 := H0) h3 hi hn d (k + 1) _ rest H2 (by omega) b3 (by
        rw [if_pos rfl, hV, List.set_append_right _ _ (by simp), List.length_replicate, Nat.sub_self, List.set_cons_zero, List.replicate_succ', List.append_assoc]
        rfl) (by simpa using hl)
      refine ⟨V', H', ?_, z2, z3, fun j hj => by rw [z4 j hj, if_neg hj], by omega⟩
      obtain ⟨_, _, rfl⟩ := rows_len hr.rd
      obtain ⟨_, _, _, rfl⟩ := h3
      obtain ⟨ra, rc, hre⟩ := (hr.rx i hi).len
      rw [hre] at a2 b1
      exact lp_next (f15_L1_0 a1 a2 (by omega) a1 a2 (fit64 (by omega) (by omega)) b1 rfl b2 (fit64 (by omega) (by omega))) z1
theorem loop15a {x0 x3 : Value} {N : Nat} {r : Nat → Value} {n : Nat → Nat} {o : Nat → Option Nat} (hD : Dis N o) {prot : Nat} (hp : ∀ j, j < N → ∀ a, o j = some a → prot ≤ a) (hN : N ≤ 1000000) {H0 : AHeap} (h3 : ∃ a m c, x3 = .slice a m c) (hn : ∀ i, i < N → n i ≤ 1000000000) : ∀ (d i : Nat) (V : Nat → List Int) (H : AHeap), i + d = N → Rows H x0 N r n o V → (∀ j, j < i → V j = List.replicate (n j) (1000 + (j : Int))) →
    ∃ H', lpInf (lpOf cfg a15 0 prot H0) ([x0, x3, .int .i64 i], H) = some (.exit 0, [x0, x3], H') ∧ Rows H' x0 N r n o (fun j => List.replicate (n j) (1000 + (j : Int))) ∧ H'.length = H.length
  | 0, i, V, H, hi, hr, hV => by
    refine ⟨H, ?_, ⟨hr.rd, fun j hj => by rw [← hV j (by omega)]; exact hr.rx j hj⟩, rfl⟩
    obtain ⟨_, _, rfl⟩ := rows_len hr.rd
    obtain ⟨_, _, _, rfl⟩ := h3
    exact lp_last (f15_L0_1 (by omega))
  | d + 1, i, V, H, hi, hr, hV => by
    have hVl : (V i).length = n i := by
      have := hr.rx i (by omega)
      cases ho : o i with
      | none => rw [ho] at this; obtain ⟨a, b, _⟩ := this; have : (il (V i)).length = 0 := by rw [b]; rfl
                simp [il] at this; rw [this, a]; rfl
      | some id => rw [ho] at this; have := this.1; simpa [il] using this
    obtain ⟨V1, H1, y1, y2, y3, y4, y5⟩ := loop15b hD hp hN (H0 := H0) h3 (show i < N by omega) (hn i (by omega)) (n i) 0 V (V i) H (by omega) hr (by simp) hVl
    obtain ⟨H', z1, z2, z3⟩ := loop15a hD hp hN (H0 := H0) h3 hn d (i + 1) V1 H1 (by omega) y2 (fun j hj => by
      by_cases e : j = i
      · subst e; exact y3
      · rw [y4 j e, hV j (by omega)])
    refine ⟨H', ?_, z2, by omega⟩
    obtain ⟨_, _, rfl⟩ := rows_len hr.rd
    obtain ⟨_, _, _, rfl⟩ := h3
    exact lp_next (f15_L0_0 (by omega) y1 (fit64 (by omega) (by omega))) z1
end Go.Proofs.Ytkemihfaohkoeaa.Am11
namespace Go.Proofs.Ytkemihfaohkoeaa.Am11
open Go Go.Proofs.Ytkemihfaohkoeaa.Am
def mk (n : Nat → Nat) (j : Nat) : List Value := il (List.replicate (n j) (1000 + (j : Int)))
def gw (k j : Nat) : List Value := il (List.replicate k (2000 + (j : Int)))
structure Gro (B : Nat) (H : AHeap) (x0 : Value) (N : Nat) (r : Nat → Value) (n : Nat → Nat) (o : Nat → Option Nat) (i m : Nat) (x3 : Value) (o3 : Option Nat) (g : Nat → Value) (og : Nat → Option Nat) : Prop where
  rd : ∃ cs, Rd H 34 1 x0 N cs ∧ ∀ j, j < N → cs[j]? = some (r j)
  low : Low B x0
  rx : ∀ j, m ≤ j → j < N → RX H 3 (r j) (n j) (o j) (mk n j)
  gk : ∀ j, j < i → GK H 3 (r j) (g j) (n j) 40 (o j) (og j) (mk n j) (gw 40 j)
  x3 : Own H 34 1 x3 o3 i ((List.range i).map g)
  o3 : ∀ id, o3 = some id → B ≤ id
  lt : ∀ j, j < N → ∀ a, o j = some a → a < B
  le : B ≤ H.length
  dis : ∀ j, j < i → ∀ a, og j = some a → o j = some a ∨ B ≤ a
theorem stay_rx {H H' : AHeap} {x3 : Value} {o3 : Option Nat} {i : Nat} {cs : List Value} (h3 : Own H 34 1 x3 o3 i cs) (s : Stay o3 H H') {r : Value} {n : Nat} {o : Option Nat} {vs : List Value} (h : RX H 3 r n o vs) : RX H' 3 r n o vs := by
  cases o3 with
  | none => exact h.stay s (fun id _ e => by cases e)
  | some id =>
    obtain ⟨_, _, _, wr, _, hH⟩ := h3
    exact h.stayE hH (by decide) s
theorem stay_gk {H H' : AHeap} {x3 : Value} {o3 : Option Nat} {i : Nat} {cs : List Value} (h3 : Own H 34 1 x3 o3 i cs) (s : Stay o3 H H') {r g : Value} {n k : Nat} {o o' : Option Nat} {vs ws : List Value} (h : GK H 3 r g n k o o' vs ws) : GK H' 3 r g n k o o' vs ws := by
  cases o3 with
  | none => exact h.stay s (fun id _ e => by cases e)
  | some id =>
    obtain ⟨_, _, _, wr, _, hH⟩ := h3
    exact h.stayE hH (by decide) s
theorem loop15d {B : Nat} {x0 x3 : Value} {N : Nat} {r : Nat → Value} {n : Nat → Nat} {o : Nat → Option Nat} (hD : Dis N o) {prot : Nat} (hp : ∀ j, j < N → ∀ a, o j = some a → prot ≤ a) (hpB : prot ≤ B) (hN : N ≤ 1000000) {H0 : AHeap} {i : Nat} (hi : i < N) (hn : n i ≤ 1000000000) {o3 : Option Nat} {g : Nat → Value} {og : Nat → Option Nat} : ∀ (d k : Nat) (x7 : Value) (o' : Option Nat) (H : AHeap), k + d = 40 → Gro B H x0 N r n o i (i + 1) x3 o3 g og → GK H 3 (r i) x7 (n i) k (o i) o' (mk n i) (gw k i) → (∀ a, o' = some a → o i = some a ∨ B ≤ a) → (∀ j, j < i → ∀ a, og j = some a → o' ≠ some a) →
    ∃ y o2 H', lpInf (lpOf cfg a15 3 prot H0) ([x0, x3, .int .i64 i, x7, .int .i64 k], H) = some (.exit 6, [x0, x3, .int .i64 i, y], H') ∧ Gro B H' x0 N r n o i (i + 1) x3 o3 g og ∧ GK H' 3 (r i) y (n i) 40 (o i) o2 (mk n i) (gw 40 i) ∧ (∀ a, o2 = some a → o i = some a ∨ B ≤ a) ∧ (∀ j, j < i → ∀ a, og j = some a → o2 ≠ some a)
  | 0, k, x7, o', H, hk, hG, hK, h1, h2 => by
    have he : k = 40 := by omega
    subst he
    refine ⟨x7, o', H, ?_, hG, hK, h1, h2⟩
    obtain ⟨_, _, rfl⟩ := rows_len hG.rd
    obtain ⟨_, _, rfl⟩ := hG.x3.len
    obtain ⟨_, _, rfl⟩ := hK.glen
    exact lp_last (f15_L3_1 (by omega))
  | d + 1, k, x7, o', H, hk, hG, hK, h1, h2 => by
    have hle := hG.le
    obtain ⟨id, H2, q1, q2, q3, q4, q5⟩ := hK.app T34 (v := .int .i64 (2000 + (i : Int))) rfl (prot := prot) (fun a ha => by
      rcases h1 a ha with h | h
      · exact hp i hi a h
      · omega) (by omega) (by omega) (L := 1 * 1) rfl (el := 1) rfl
    have hgw : gw k i ++ [.int .i64 (2000 + (i : Int))] = gw (k + 1) i := by
      unfold gw il
      rw [List.replicate_succ', List.map_append]
      rfl
    rw [hgw] at q2
    have hl2 := q3.1
    -- whose object is it?
    have hid : o i = some id ∨ B ≤ id := by
      cases ho' : o' with
      | none => have := q5 ho'; exact .inr (by omega)
      | some a => have e := q4 a ho'; rw [e]; exact h1 a ho'
    have hnew : ∀ j, j < i → ∀ a, og j = some a → id ≠ a := fun j hj a ha e => by
      cases ho' : o' with
      | none =>
        have := q5 ho'
        have h3 := hG.gk j hj
        rw [ha] at h3
        have := h3.lt
        omega
      | some b => have e2 := q4 b ho'; exact h2 j hj a ha (by rw [ho']; rw [← e, e2])
    have h3o : ∀ b, o3 = some b → o' ≠ some b := fun b hb e => by
      rcases hK.gl with ⟨h, _⟩ | ⟨id2, wr, a, _, _, d2, _⟩
      · rw [h] at e; cases e
      · have h0 := hG.x3
        rw [hb] at h0
        obtain ⟨_, _, _, wr2, _, h4⟩ := h0
        rw [a] at e
        have := Option.some.inj e
        subst this
        rw [d2] at h4
        simp only [Option.some.injEq, AObj.cells.injEq] at h4
        exact absurd h4.2.1 (by decide)
    have hG2 : Gro B H2 x0 N r n o i (i + 1) x3 o3 g og := by
      refine ⟨?_, hG.low, fun j hj hjN => ?_, fun j hj => ?_, hG.x3.stay q3 h3o, hG.o3, hG.lt, by omega, hG.dis⟩
      · obtain ⟨cs, c1, c2⟩ := hG.rd
        refine ⟨cs, ?_, c2⟩
        rcases hK.gl with ⟨h, _⟩ | ⟨id2, wr, a, _, _, d2, _⟩
        · rw [h] at q3; exact c1.stay q3
        · rw [a] at q3; exact c1.stayE d2 (by decide) q3
      · refine (hG.rx j hj hjN).stay q3 (fun b hb e2 => ?_)
        rcases h1 b e2 with h | h
        · exact hD j i hjN hi (by omega) b hb h
        · have := hG.lt j hjN b hb; omega
      · exact (hG.gk j hj).stay q3 (fun b hb e2 => h2 j hj b hb e2)
    obtain ⟨y, o2, H', z1, z2⟩ := loop15d hD hp hpB hN (H0 := H0) hi hn d (k + 1) _ (some id) H2 (by omega) hG2 q2 (fun a ha => by cases ha; exact hid) (fun j hj a ha e => hnew j hj a ha (Option.some.inj e))
    refine ⟨y, o2, H', ?_, z2⟩
    obtain ⟨_, _, rfl⟩ := rows_len hG.rd
    obtain ⟨_, _, rfl⟩ := hG.x3.len
    obtain ⟨_, _, rfl⟩ := hK.glen
    exact lp_next (f15_L3_0 (by omega) (fit64 (by omega) (by omega)) q1 (fit64 (by omega) (by omega))) z1
end Go.Proofs.Ytkemihfaohkoeaa.Am11
namespace Go.Proofs.Ytkemihfaohkoeaa.Am11
open Go Go.Proofs.Ytkemihfaohkoeaa.Am
theorem loop15c {B : Nat} {x0 : Value} {N : Nat} {r : Nat → Value} {n : Nat → Nat} {o : Nat → Option Nat} (hD : Dis N o) {prot : Nat} (hp : ∀ j, j < N → ∀ a, o j = some a → prot ≤ a) (hpB : prot ≤ B) (hN : N ≤ 1000000) {H0 : AHeap} (hn : ∀ i, i < N → n i ≤ 1000000000) : ∀ (d i : Nat) (x3 : Value) (o3 : Option Nat) (g : Nat → Value) (og : Nat → Option Nat) (H : AHeap), i + d = N → Gro B H x0 N r n o i i x3 o3 g og →
    ∃ y o2 g2 og2 H', lpInf (lpOf cfg a15 2 prot H0) ([x0, x3, .int .i64 i], H) = some (.exit 4, [x0, y], H') ∧ Gro B H' x0 N r n o N N y o2 g2 og2
  | 0, i, x3, o3, g, og, H, hi, hG => by
    have he : i = N := by omega
    subst he
    refine ⟨x3, o3, g, og, H, ?_, hG⟩
    obtain ⟨_, _, rfl⟩ := rows_len hG.rd
    obtain ⟨_, _, rfl⟩ := hG.x3.len
    exact lp_last (f15_L2_1 (by omega))
  | d + 1, i, x3, o3, g, og, H, hi, hG => by
    have hiN : i < N := by omega
    obtain ⟨id, L, a1, a2⟩ := rows_at hG.rd hiN
    have hri := hG.rx i (Nat.le_refl _) hiN
    have hG1 : Gro B H x0 N r n o i (i + 1) x3 o3 g og := ⟨hG.rd, hG.low, fun j hj hjN => hG.rx j (by omega) hjN, hG.gk, hG.x3, hG.o3, hG.lt, hG.le, hG.dis⟩
    obtain ⟨y, o2, H2, z1, z2, z3, z4, z5⟩ := loop15d hD hp hpB hN (H0 := H0) hiN (hn i hiN) 40 0 (r i) (o i) H (by omega) hG1 hri.gk (fun a ha => .inl ha) (fun j hj a ha e => by
      rcases hG.dis j hj a ha with h | h
      · exact hD j i (by omega) hiN (by omega) a h e
      · have := hG.lt i hiN a e; omega)
    have hyl := z3.glen
    have hyc : [y].all isCell = true := by obtain ⟨_, _, rfl⟩ := hyl; rfl
    have hle := z2.le
    obtain ⟨a', c', o'', H3, s1, s2, s3, s4, s5, s6⟩ := own_app T22 z2.x3 (ecs := [y]) rfl hyc (prot := prot) (room := true) (fun id h => by have := z2.o3 id h; omega) (by omega) (by omega) (L := 1 * 1) rfl (el := [y].length) rfl
    have h3o : ∀ b, o3 = some b → o'' = b := s6
    have hob : B ≤ o'' := by
      cases ho : o3 with
      | none => have := s5 ho; omega
      | some b => rw [s6 b ho]; exact z2.o3 b ho
    have hmap : (List.range i).map g ++ [y] = (List.range (i + 1)).map (fun j => if j = i then y else g j) := by
      have e1 : (List.range i).map g = (List.range i).map (fun j => if j = i then y else g j) := by
        refine List.map_congr_left fun j hj => ?_
        have := List.mem_range.1 hj
        rw [if_neg (by omega)]
      rw [List.range_succ, List.map_append, e1, List.map_singleton, if_pos rfl]
    rw [hmap] at s2
    have hG3 : Gro B H3 x0 N r n o (i + 1) (i + 1) (.slice a' (i + 1) c') (some o'') (fun j => if j = i then y else g j) (fun j => if j = i then o2 else og j) := by
      refine ⟨?_, z2.low, fun j hj hjN => stay_rx z2.x3 s3 (z2.rx j hj hjN), fun j hj => ?_, s2, fun id h => by cases h; exact hob, z2.lt, Nat.le_trans hle s3.1, fun j hj a ha => ?_⟩
      · obtain ⟨cs, c1, c2⟩ := z2.rd
        exact ⟨cs, c1.stayLow z2.low s3 z2.o3, c2⟩
      · by_cases e : j = i
        · subst e
          rw [if_pos rfl, if_pos rfl]
          exact stay_gk z2.x3 s3 z3
        · rw [if_neg e, if_neg e]
          exact stay_gk z2.x3 s3 (z2.gk j (by omega))
      · by_cases e : j = i
        · subst e
          rw [if_pos rfl] at ha
          exact z4 a ha
        · rw [if_neg e] at ha
          exact z2.dis j (by omega) a ha
    obtain ⟨y', o2', g2, og2, H', w1, w2⟩ := loop15c hD hp hpB hN (H0 := H0) hn d (i + 1) _ _ _ _ H3 (by omega) hG3
    refine ⟨y', o2', g2, og2, H', ?_, w2⟩
    obtain ⟨_, _, rfl⟩ := rows_len hG.rd
    obtain ⟨_, _, rfl⟩ := hG.x3.len
    obtain ⟨_, _, hre⟩ := hri.len
    obtain ⟨_, _, rfl⟩ := hyl
    rw [hre] at a2 z1
    exact lp_next (f15_L2_0 (by omega) a1 a2 z1 s1 (fit64 (by omega) (by omega))) w1

theorem il_rep (k : Nat) (c : Int) : il (List.replicate k c) = List.replicate k (.int .i64 c) := by unfold il; rw [List.map_replicate]
theorem loop15f {B : Nat} {x0 x3 : Value} {N : Nat} {r : Nat → Value} {n : Nat → Nat} {o : Nat → Option Nat} (hN : N ≤ 1000000) {H0 : AHeap} {prot : Nat} {o3 : Option Nat} {g : Nat → Value} {og : Nat → Option Nat} {H : AHeap} (hG : Gro B H x0 N r n o N N x3 o3 g og) {i : Nat} (hi : i < N) (hn : n i ≤ 1000000000) : ∀ (d k : Nat), k + d = n i + 40 →
    lpInf (lpOf cfg a15 5 prot H0) ([x0, x3, .int .i64 i, .int .i64 k], H) = some (.exit 10, [x0, .tuple #[], x3, .int .i64 i], H)
  | 0, k, hk => by
    have h3 : ∃ cs, Rd H 34 1 x3 N cs ∧ ∀ j, j < N → cs[j]? = some (g j) := ⟨_, hG.x3.rd, fun j hj => by rw [List.getElem?_map, List.getElem?_range hj]; rfl⟩
    obtain ⟨i1, L1, a1, a2⟩ := rows_at h3 hi
    have hK := hG.gk i hi
    obtain ⟨_, _, rfl⟩ := rows_len hG.rd
    obtain ⟨_, _, rfl⟩ := rows_len h3
    obtain ⟨_, _, hge⟩ := hK.glen
    rw [hge] at a2
    exact lp_last (f15_L5_8 a1 a2 (by omega))
  | d + 1, k, hk => by
    have h3 : ∃ cs, Rd H 34 1 x3 N cs ∧ ∀ j, j < N → cs[j]? = some (g j) := ⟨_, hG.x3.rd, fun j hj => by rw [List.getElem?_map, List.getElem?_range hj]; rfl⟩
    obtain ⟨i1, L1, a1, a2⟩ := rows_at h3 hi
    obtain ⟨i2, L2, b1, b2⟩ := rows_at hG.rd hi
    have hK := hG.gk i hi
    obtain ⟨hg, hr⟩ := hK.rd
    have ih := loop15f hN (H0 := H0) (prot := prot) hG hi hn d (k + 1) (by omega)
    have hml : (mk n i).length = n i := by unfold mk; rw [il_rep, List.length_replicate]
    have f1 : Fit .i64 (1000 + (i : Int)) := fit64 (by omega) (by omega)
    have f2 : Fit .i64 (2000 + (i : Int)) := fit64 (by omega) (by omega)
    have fk : Fit .i64 ((k : Int) + 1) := fit64 (by omega) (by omega)
    obtain ⟨_, _, hge⟩ := hK.glen
    obtain ⟨_, _, hre⟩ := hK.rl
    obtain ⟨_, _, rfl⟩ := rows_len hG.rd
    obtain ⟨_, _, rfl⟩ := rows_len h3
    by_cases hk2 : k < n i
    · have e1 : (mk n i ++ gw 40 i)[k]? = some (.int .i64 (1000 + (i : Int))) := by
        rw [List.getElem?_append_left (by omega)]
        unfold mk
        rw [il_rep, List.getElem?_replicate, if_pos hk2]
      have e2 : (mk n i)[k]? = some (.int .i64 (1000 + (i : Int))) := by
        unfold mk
        rw [il_rep, List.getElem?_replicate, if_pos hk2]
      obtain ⟨i3, L3, c1, c2⟩ := rd_at T34 hg e1
      obtain ⟨i4, L4, d1, d2⟩ := rd_at T34 (hr (by omega)) e2
      rw [hge] at a2 c1
      rw [hre] at b2 d1
      exact lp_next (f15_L5_4 a1 a2 (by omega) b1 b2 (by omega) b1 b2 d1 d2 f1 (by simp) a1 a2 c1 c2 (by simp) b1 b2 (by omega) fk) ih
    · have e1 : (mk n i ++ gw 40 i)[k]? = some (.int .i64 (2000 + (i : Int))) := by
        rw [List.getElem?_append_right (by omega), hml]
        unfold gw
        rw [il_rep, List.getElem?_replicate, if_pos (by omega)]
      obtain ⟨i3, L3, c1, c2⟩ := rd_at T34 hg e1
      rw [hge] at a2 c1
      rw [hre] at b2
      exact lp_next (f15_L5_6 a1 a2 (by omega) b1 b2 (by omega) b1 b2 (by omega) a1 a2 c1 c2 f2 (by simp) fk) ih
theorem loop15e {B : Nat} {x0 x3 : Value} {N : Nat} {r : Nat → Value} {n : Nat → Nat} {o : Nat → Option Nat} (hN : N ≤ 1000000) {H0 : AHeap} {prot : Nat} {o3 : Option Nat} {g : Nat → Value} {og : Nat → Option Nat} {H : AHeap} (hG : Gro B H x0 N r n o N N x3 o3 g og) (hn : ∀ i, i < N → n i ≤ 1000000000) : ∀ (d i : Nat), i + d = N →
    lpInf (lpOf cfg a15 4 prot H0) ([x0, x3, .int .i64 i], H) = some (.exit 8, [.tuple #[]], H)
  | 0, i, hi => by
    obtain ⟨_, _, rfl⟩ := rows_len hG.rd
    obtain ⟨_, _, rfl⟩ := hG.x3.len
    exact lp_last (f15_L4_2 (by omega))
  | d + 1, i, hi => by
    have hf := loop15f hN (H0 := H0) (prot := prot) hG (show i < N by omega) (hn i (by omega)) (n i + 40) 0 (by omega)
    have ih := loop15e hN (H0 := H0) (prot := prot) hG hn d (i + 1) (by omega)
    obtain ⟨_, _, rfl⟩ := rows_len hG.rd
    obtain ⟨_, _, rfl⟩ := hG.x3.len
    exact lp_next (f15_L4_0 (by omega) hf (fit64 (by omega) (by omega))) ih

theorem c15 {x0 : Value} {N : Nat} {r : Nat → Value} {n : Nat → Nat} {o : Nat → Option Nat} {V : Nat → List Int} (hD : Dis N o) {prot : Nat} (hp : ∀ j, j < N → ∀ a, o j = some a → prot ≤ a) (hN : N ≤ 1000000) (hn : ∀ i, i < N → n i ≤ 1000000000) {H : AHeap} (hpH : prot ≤ H.length) (hr : Rows H x0 N r n o V) :
    ∃ H', callInf cfg 15 [x0] prot H = some (.bool true, H') := by
  obtain ⟨H1, y1, y2, y3⟩ := loop15a hD hp hN (H0 := H) (x3 := .slice none 0 0) ⟨_, _, _, rfl⟩ hn N 0 V H (by omega) hr (fun j hj => by omega)
  have hG : Gro H1.length H1 x0 N r n o 0 0 (.slice none 0 0) none (fun _ => .slice none 0 0) (fun _ => none) := by
    refine ⟨y2.rd, ?_, fun j _ hj => y2.rx j hj, fun j hj => (by omega), own_nil, fun id h => (by cases h), fun j hj a ha => ?_, Nat.le_refl _, fun j hj => (by omega)⟩
    · obtain ⟨cs, c1, _⟩ := y2.rd
      exact c1.low
    · have := y2.rx j hj
      rw [ha] at this
      exact this.lt
  obtain ⟨y, o2, g2, og2, H2, z1, z2⟩ := loop15c hD hp (by omega) hN (H0 := H) hn N 0 _ _ _ _ H1 (by omega) hG
  have he := loop15e hN (H0 := H) (prot := prot) z2 hn N 0 (by omega)
  refine ⟨H2, ?_⟩
  obtain ⟨_, _, rfl⟩ := rows_len hr.rd
  obtain ⟨_, _, rfl⟩ := z2.x3.len
  exact f15_F_0 y1 z1 he
end Go.Proofs.Ytkemihfaohkoeaa.Am11
set_option linter.unusedVariables false
open Go Go.Proofs.Ytkemihfaohkoeaa.Am
namespace Go.Proofs.Ytkemihfaohkoeaa.Am11
theorem f6_F_0 {x0a : Option Addr} {x0n x0c : Nat} {H : AHeap} {prot : Nat} {x15a : Option Addr} {x15n x15c : Nat} {H1 : AHeap} {x18aa : Option Addr} {x18an x18ac : Nat} {x18b x18c : Int} {H2 : AHeap} {x24aa : Option Addr} {x24an x24ac : Nat} {x24b : Int} {H3 : AHeap} {x29aa : Option Addr} {x29an x29ac : Nat} {x29b x29c : Int} {H4 : AHeap} {x35aa : Option Addr} {x35an x35ac : Nat} {x35b : Int} {H5 : AHeap} {x39 x40 x42 : Int} {x47 : Bool} {x56 : Int} {x63 : Bool} {x67 : Int} {x74 x79 : Bool} {H6 : AHeap} {x82 : Bool} (h1 : callInf cfg 9 [Value.slice x0a x0n x0c] (List.length H) H = some (Value.slice x15a x15n x15c, H1)) (h2 : callInf cfg 18 [Value.slice x15a x15n x15c] (List.length H) H1 = some (Value.tuple { toList := [Value.slice x18aa x18an x18ac, Value.int .i64 x18b, Value.int .i64 x18c] }, H2)) (h3 : callInf cfg 22 [Value.slice x15a x15n x15c] (List.length H) H2 = some (Value.tuple { toList := [Value.slice x24aa x24an x24ac, Value.int .i64 x24b] }, H3)) (h4 : callInf cfg 23 [Value.slice x0a x0n x0c] (List.length H) H3 = some (Value.tuple { toList := [Value.slice x29aa x29an x29ac, Value.int .i64 x29b, Value.int .i64 x29c] }, H4)) (h5 : callInf cfg 24 [Value.slice x0a x0n x0c] (List.length H) H4 = some (Value.tuple { toList := [Value.slice x35aa x35an x35ac, Value.int .i64 x35b] }, H5)) (h6 : callInf cfg 25 [Value.slice x15a x15n x15c] (List.length H) H5 = some (Value.int .i64 x39, H5)) (h7 : callInf cfg 13 [Value.int .i64 x39] (List.length H) H5 = some (Value.int .i64 x40, H5)) (h8 : callInf cfg 26 [Value.slice x0a x0n x0c] (List.length H) H5 = some (Value.int .i64 x42, H5)) (h9 : (x40 == x42) = true) (h10 : callInf cfg 27 [Value.slice x18aa x18an x18ac, Value.slice x29aa x29an x29ac] (List.length H) H5 = some (Value.bool x47, H5)) (h11 : x47 = true) (h12 : (x18b == x29b) = true) (h13 : callInf cfg 13 [Value.int .i64 x18c] (List.length H) H5 = some (Value.int .i64 x56, H5)) (h14 : (x56 == x29c) = true) (h15 : callInf cfg 28 [Value.slice x24aa x24an x24ac, Value.slice x35aa x35an x35ac] (List.length H) H5 = some (Value.bool x63, H5)) (h16 : x63 = true) (h17 : callInf cfg 13 [Value.int .i64 x24b] (List.length H) H5 = some (Value.int .i64 x67, H5)) (h18 : (x67 == x35b) = true) (h19 : callInf cfg 14 [Value.slice x15a x15n x15c, Value.slice x0a x0n x0c] (List.length H) H5 = some (Value.bool x74, H5)) (h20 : x74 = true) (h21 : callInf cfg 15 [Value.slice (some ⟨List.length H5, 0, some (1 * 1)⟩) 1 1] (List.length H) (H5 ++ [wo [Value.slice x18aa x18an x18ac] 34]) = some (Value.bool x79, H6)) (h22 : x79 = true) (h23 : callInf cfg 16 [] (List.length H) H6 = some (Value.bool x82, H6)) : callInf cfg 6 [.slice x0a x0n x0c] prot H = some (Value.bool x82, H) :=
  fn_of2 a6 [.r (.slice x15a x15n x15c) H1, .r (.tuple #[.slice x18aa x18an x18ac, .int .i64 x18b, .int .i64 x18c]) H2, .r (.tuple #[.slice x24aa x24an x24ac, .int .i64 x24b]) H3, .r (.tuple #[.slice x29aa x29an x29ac, .int .i64 x29b, .int .i64 x29c]) H4, .r (.tuple #[.slice x35aa x35an x35ac, .int .i64 x35b]) H5, .v (.int .i64 x39), .v (.int .i64 x40), .v (.int .i64 x42), .e, .b true, .b true, .b true, .v (.bool x47), .b true, .b true, .b true, .b true, .e, .b true, .b true, .b true, .v (.int .i64 x56), .b true, .b true, .e, .b true, .b true, .b true, .b true, .v (.bool x63), .b true, .b true, .b true, .v (.int .i64 x67), .b true, .b true, .e, .b true, .b true, .b true, .b true, .v (.bool x74), .b true, .b true, .b true, .e, .b true, .r (.bool x79) H6, .b true, .b true, .v (.bool x82), .b true] (ai h1 (ai h2 (ai h3 (ai h4 (ai h5 (ai h6 (ai h7 (ai h8 (ai h9 (ai h9 (ai h9 (ai h10 (ai h9 (ai h11 (ai h11 (ai h11 (ai h11 (ai h12 (ai h12 (ai h13 (ai h12 (ai h12 (ai h12 (ai h14 (ai h14 (ai h14 (ai h15 (ai h14 (ai h16 (ai h16 (ai h17 (ai h16 (ai h16 (ai h16 (ai h18 (ai h18 (ai h18 (ai h19 (ai h18 (ai h20 (ai h20 (ai h20 (ai h21 (ai h20 (ai h22 (ai h23 (ai h22 (Eq.refl ((Value.bool x82, H) : Value × AHeap))))))))))))))))))))))))))))))))))))))))))))))))) (by kernel_rfl) rfl
end Go.Proofs.Ytkemihfaohkoeaa.Am11
namespace Go.Proofs.Ytkemihfaohkoeaa.Am11
open Go Go.Proofs.Ytkemihfaohkoeaa.Am
theorem one_apart {l : Value} {n : Nat} {o : Option Nat} {V : List Int} {H : AHeap} {prot : Nat} (hp : ∀ a, o = some a → prot ≤ a) (hpH : prot ≤ H.length) (hn : n ≤ 1000000000) (h : RX H 3 l n o (il V)) :
    ∃ H', callInf cfg 15 [.slice (some ⟨H.length, 0, some (1 * 1)⟩) 1 1] prot (H ++ [wo [l] 34]) = some (.bool true, H') := by
  have s : Stay none H (H ++ [wo [l] 34]) := Stay.app none H _
  refine c15 (N := 1) (r := fun _ => l) (n := fun _ => n) (o := fun _ => o) (V := fun _ => V) (fun i j hi hj hne => by omega) (fun j _ a ha => hp a ha) (by omega) (fun _ _ => hn) (by simp; omega) ⟨⟨[l], (own_new (e := 34) (s := 1) (n := 1) (cs := [l]) rfl (by omega) rfl rfl).rd, fun j hj => ?_⟩, fun j hj => h.stay s (fun _ _ e => by cases e)⟩
  have : j = 0 := by omega
  subst this; rfl
theorem law6 {G : List (List Int)} {x0 : Value} (hs : Short8 G) (prot : Nat) (H : AHeap) (hg : Gr H x0 G) : callInf cfg 6 [x0] prot H = some (.bool true, H) := by
  obtain ⟨x, H1, a1, a2, a3⟩ := c9 hs H.length hg
  have hss := hs.short
  by_cases h : chk G = 0
  · obtain ⟨l, H2, b1, b2, b3, b4⟩ : ∃ y H3, callInf cfg 18 [x] H.length H1 = some (.tuple #[y, .int .i64 (comp G).2, .int .i64 0], H3) ∧ OwnE H3 3 y G.length (il (nl (comp G).1)) H1.length ∧ (comp G).1.length = G.length ∧ Stay none H1 H3 := by
      rcases c18 hss H.length a2.gr with ⟨h1, _⟩ | ⟨_, h2⟩
      · exact absurd h h1
      · exact h2
    have hG := good_of hss h
    have h5 := hG.1
    have hn := comp_n G
    obtain ⟨s, H3, d1, d2, d3⟩ : ∃ s H2', callInf cfg 22 [x] H.length H2 = some (.tuple #[s, .int .i64 0], H2') ∧ OwnS H2' 39 8 s (comp G).2 (sets (abv G) (comp G).2) H2.length ∧ Stay none H2 H2' := by
      rcases c22 hss H.length (a2.stay b4).gr with ⟨h1, _⟩ | ⟨_, h2⟩
      · exact absurd h h1
      · exact h2
    have s3 := (a3.trans b4).trans d3
    obtain ⟨m, H4, e1, e2, e3⟩ : ∃ y H', callInf cfg 23 [x0] H.length H3 = some (.tuple #[y, .int .i64 (comp G).2, .int .i64 0], H') ∧ OwnE H' 3 y G.length (il (nl (comp G).1)) H3.length ∧ Stay none H3 H' := by
      rcases c23 hss H.length (hg.stay s3) with ⟨h1, _⟩ | ⟨_, h2⟩
      · exact absurd h h1
      · exact h2
    have s4 := s3.trans e3
    obtain ⟨t, H5, f1, f2, f3⟩ : ∃ s H2', callInf cfg 24 [x0] H.length H4 = some (.tuple #[s, .int .i64 0], H2') ∧ OwnS H2' 39 8 s (comp G).2 (sets (abv G) (comp G).2) H4.length ∧ Stay none H4 H2' := by
      rcases c24 hss H.length (hg.stay s4) with ⟨h1, _⟩ | ⟨_, h2⟩
      · exact absurd h h1
      · exact h2
    have s5 := s4.trans f3
    have k1 := ((b4.trans d3).trans e3).trans f3
    have k2 := (d3.trans e3).trans f3
    have h25 := c25 hss H.length (a2.stay k1).gr
    have h26 := c26 hss H.length (hg.stay s5)
    have h27 := c27 (l := nl (comp G).1) (m := nl (comp G).1) (by simp [nl]; omega) H.length (by simpa [nl, b3] using (b2.stay k2).rd) (by simpa [nl, b3] using (e2.stay f3).rd)
    rw [decide_eq_true rfl] at h27
    have h28 := c28 (by omega) H.length (d2.stay (e3.trans f3)).rd f2.rd
    have h14 := c14 hs H.length (a2.stay k1) (hg.stay s5)
    obtain ⟨o, r1, r2⟩ := (b2.stay k2).rx
    have l1 := a3.1
    obtain ⟨H6, h15⟩ := one_apart (prot := H.length) (fun a ha => by have := r2 a ha; omega) s5.1 (by omega) r1
    have hk := cKnows H.length H6
    obtain ⟨_, _, rfl⟩ := a2.gr.len
    obtain ⟨_, _, rfl⟩ := b2.rd.len
    obtain ⟨_, _, rfl⟩ := d2.rd.len
    obtain ⟨_, _, rfl⟩ := e2.rd.len
    obtain ⟨_, _, rfl⟩ := f2.rd.len
    obtain ⟨_, _, rfl⟩ := hg.len
    exact f6_F_0 a1 b1 d1 e1 f1 h25 f13_F_0 h26 (by simp) h27 rfl (by simp) f13_F_0 (by simp) h28 rfl f13_F_0 (by simp) h14 rfl h15 rfl hk
  · have b1 : callInf cfg 18 [x] H.length H1 = some (.tuple #[.slice none 0 0, .int .i64 0, .int .i64 (chk G)], H1) := by
      rcases c18 hss H.length a2.gr with ⟨_, h1⟩ | ⟨h1, _⟩
      · exact h1
      · exact absurd h1 h
    have d1 : callInf cfg 22 [x] H.length H1 = some (.tuple #[.slice none 0 0, .int .i64 (chk G)], H1) := by
      rcases c22 hss H.length a2.gr with ⟨_, h1⟩ | ⟨h1, _⟩
      · exact h1
      · exact absurd h1 h
    have e1 : callInf cfg 23 [x0] H.length H1 = some (.tuple #[.slice none 0 0, .int .i64 0, .int .i64 (chk G)], H1) := by
      rcases c23 hss H.length (hg.stay a3) with ⟨_, h1⟩ | ⟨h1, _⟩
      · exact h1
      · exact absurd h1 h
    have f1 : callInf cfg 24 [x0] H.length H1 = some (.tuple #[.slice none 0 0, .int .i64 (chk G)], H1) := by
      rcases c24 hss H.length (hg.stay a3) with ⟨_, h1⟩ | ⟨h1, _⟩
      · exact h1
      · exact absurd h1 h
    have h25 := c25 hss H.length a2.gr
    have h26 := c26 hss H.length (hg.stay a3)
    have hnil : Rd H1 3 1 (.slice none 0 0) ([] : List Int).length (il []) := ⟨rfl, .inl ⟨rfl, .inl rfl⟩⟩
    have hnil2 : Rd H1 39 8 (.slice none 0 0) 0 (sets (abv G) 0) := ⟨rfl, .inl ⟨rfl, .inl rfl⟩⟩
    have h27 := c27 (by simp) H.length hnil hnil
    rw [decide_eq_true rfl] at h27
    have h28 := c28 (by omega) H.length hnil2 hnil2
    have h14 := c14 hs H.length a2 (hg.stay a3)
    obtain ⟨H6, h15⟩ := one_apart (H := H1) (l := .slice none 0 0) (n := 0) (o := none) (V := []) (prot := H.length) (fun a ha => by cases ha) a3.1 (by omega) ⟨rfl, rfl, .inl rfl⟩
    have hk := cKnows H.length H6
    obtain ⟨_, _, rfl⟩ := a2.gr.len
    obtain ⟨_, _, rfl⟩ := hg.len
    exact f6_F_0 a1 b1 d1 e1 f1 h25 f13_F_0 h26 (by simp) h27 rfl (by simp) f13_F_0 (by simp) h28 rfl f13_F_0 (by simp) h14 rfl h15 rfl hk
end Go.Proofs.Ytkemihfaohkoeaa.Am11
