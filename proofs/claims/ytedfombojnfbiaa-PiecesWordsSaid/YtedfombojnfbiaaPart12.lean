/- A part of the proof of a given statement: Sp24_Same, P24_29, Sp24_C29, Sp24_C29i, Sp24_C29o, P24_8, P24_9, P24_10, P24_11, Sp24_Ws, P24_5, P24_13, Law24_5, P24_3, Law24_3. No condition. -/
import Derived.Test.YtedfombojnfbiaaPart11
import Derived.Laws.Strings
namespace Go.Proofs.Ytedfombojnfbiaa.Am24
open Go Go.Proofs.Ytedfombojnfbiaa.Am

theorem ba_eq (x y : ByteArray) : (x.toList == y.toList) = decide (x = y) := by
  rw [Bool.eq_iff_iff, beq_iff_eq, decide_eq_true_iff, ByteArray.toList_eq, ByteArray.toList_eq]
  constructor
  · intro h
    apply ByteArray.ext
    exact Array.toList_inj.1 h
  · intro h; rw [h]

theorem loop12 {l m : List ByteArray} {a b : Option Addr} {n c e : Nat} {o q : Option Nat} (H0 H : AHeap) (prot : Nat) (hn : n ≤ 100000) (hx : Own H 9 1 (.slice a n c) o n (sc l)) (hy : Own H 9 1 (.slice b n e) q n (sc m)) : ∀ (d i : Nat), i + d = n →
    ∃ z, lpInf (lpOf cfg a12 0 prot H0) ([.slice a n c, .slice b n e, .int .i64 i], H) = some z ∧ (z = (.exit 0, [.tuple #[]], H) ∧ l.drop i = m.drop i ∨ z = (.ret, [.bool false], H) ∧ l.drop i ≠ m.drop i)
  | 0, i, hi => by
    refine ⟨_, lp_last (f12_L0_2 a n c b n e i H0 prot H (by omega)), .inl ⟨rfl, ?_⟩⟩
    have h1 : l.length = n := by have := hx.1; simpa [sc] using this
    have h2 : m.length = n := by have := hy.1; simpa [sc] using this
    rw [List.drop_of_length_le (by omega), List.drop_of_length_le (by omega)]
  | d + 1, i, hi => by
    have h1 : l.length = n := by have := hx.1; simpa [sc] using this
    have h2 : m.length = n := by have := hy.1; simpa [sc] using this
    have hl : i < l.length := by omega
    have hm : i < m.length := by omega
    obtain ⟨id, _, g1, g2⟩ := own_at T22 hx (sc_get (List.getElem?_eq_getElem hl))
    obtain ⟨jd, _, k1, k2⟩ := own_at T22 hy (sc_get (List.getElem?_eq_getElem hm))
    rw [List.drop_eq_getElem_cons hl, List.drop_eq_getElem_cons hm]
    by_cases he : l[i] = m[i]
    · obtain ⟨z, hz, hh⟩ := loop12 H0 H prot hn hx hy d (i + 1) (by omega)
      refine ⟨z, lp_next (f12_L0_1 a n c b n e i H0 prot H id i _ l[i] jd i _ m[i] (by omega) g1 g2 k1 k2 (by rw [he]; simp) (fit64 (by omega) (by omega))) hz, ?_⟩
      rcases hh with ⟨h3, h4⟩ | ⟨h3, h4⟩
      · exact .inl ⟨h3, by rw [h4, he]⟩
      · exact .inr ⟨h3, fun h => h4 (by injection h)⟩
    · refine ⟨_, lp_last (f12_L0_0 a n c b n e i H0 prot H id i _ l[i] jd i _ m[i] (by omega) g1 g2 k1 k2 ?_), .inr ⟨rfl, fun h => he (by injection h)⟩⟩
      have := ba_eq l[i] m[i]
      rw [decide_eq_false he] at this
      simpa using this

theorem c12 {l m : List ByteArray} {a b : Option Addr} {n c n' e : Nat} {o q : Option Nat} (prot : Nat) (H : AHeap) (hn : n ≤ 100000) (hx : Own H 9 1 (.slice a n c) o n (sc l)) (hy : Own H 9 1 (.slice b n' e) q n' (sc m)) :
    callInf cfg 12 [.slice a n c, .slice b n' e] prot H = some (.bool (decide (l = m)), H) := by
  have h1 : l.length = n := by have := hx.1; simpa [sc] using this
  have h2 : m.length = n' := by have := hy.1; simpa [sc] using this
  by_cases hnn : n = n'
  · subst hnn
    obtain ⟨z, hz, hh⟩ := loop12 H H prot hn hx hy n 0 (by omega)
    simp only [List.drop_zero] at hh
    rcases hh with ⟨rfl, h4⟩ | ⟨rfl, h4⟩
    · rw [decide_eq_true h4]
      exact f12_F_1 a n c b n e H prot _ H (by simp) hz
    · rw [decide_eq_false h4]
      exact f12_F_2 a n c b n e H prot _ H (by simp) hz
  · rw [decide_eq_false (fun h => hnn (by rw [← h1, ← h2, h]))]
    exact f12_F_0 a n c b n' e H prot (by simpa using (fun h : (n : Int) = n' => hnn (by omega)))
end Go.Proofs.Ytedfombojnfbiaa.Am24
set_option linter.unusedVariables false
open Go Go.Proofs.Ytedfombojnfbiaa.Am
namespace Go.Proofs.Ytedfombojnfbiaa.Am24
theorem f29_F_0 (x0 : Int) (x1 : Int) (H : AHeap) (prot : Nat) (x15a : Option Addr) (x15n : Nat) (x15c : Nat) (H1 : AHeap) (x17 : ByteArray) (z4 : Value) (z5 : Value) (z7a : Option Addr) (z7n : Nat) (z7c : Nat) (H2 : AHeap) (rv : Value) (rH : AHeap) (h1 : callInf cfg 35 [Value.int IntKind.i64 x0, Value.int IntKind.i64 x1] (List.length H) H = some (Value.slice x15a x15n x15c, H1)) (h2 : callInf cfg 41 [Value.slice x15a x15n x15c, Value.string { data := { toList := [] } }] (List.length H) H1 = some (Value.string x17, H1)) (h3 : lpInf (lpOf cfg a29 0 prot H) ([Value.int IntKind.i64 x0, Value.slice x15a x15n x15c, Value.slice (some { block := List.length H1, off := 0, spot := some (1 * 3) }) 1 1, Value.int IntKind.i64 0], H1 ++ [AObj.cells [Value.string { data := { toList := [] } }, Value.string x17, Value.slice none 0 0] 62 [Value.string { data := { toList := [] } }, Value.string x17, Value.slice none 0 0].length OMode.row]) = some (Ex.exit 0, [z4, z5, Value.slice z7a z7n z7c], H2)) (h4 : pfin a29 H [Value.slice z7a z7n z7c, Value.bool true] H2 = (rv, rH)) : callInf cfg 29 [.int .i64 x0, .int .i64 x1] prot H = some (rv, rH) :=
  fn_of' a29 [.r (.slice x15a x15n x15c) H1, .v (.string x17), .e, .e, .lo (.exit 0, [z4, z5, .slice z7a z7n z7c], H2)] ((callInf cfg 35 [Value.int IntKind.i64 x0, Value.int IntKind.i64 x1] (List.length H) H = some (Value.slice x15a x15n x15c, H1)) ∧ (callInf cfg 41 [Value.slice x15a x15n x15c, Value.string { data := { toList := [] } }] (List.length H) H1 = some (Value.string x17, H1)) ∧ (lpInf (lpOf cfg a29 0 prot H) ([Value.int IntKind.i64 x0, Value.slice x15a x15n x15c, Value.slice (some { block := List.length H1, off := 0, spot := some (1 * 3) }) 1 1, Value.int IntKind.i64 0], H1 ++ [AObj.cells [Value.string { data := { toList := [] } }, Value.string x17, Value.slice none 0 0] 62 [Value.string { data := { toList := [] } }, Value.string x17, Value.slice none 0 0].length OMode.row]) = some (Ex.exit 0, [z4, z5, Value.slice z7a z7n z7c], H2)) ∧ (pfin a29 H [Value.slice z7a z7n z7c, Value.bool true] H2 = (rv, rH))) (by kernel_rfl) ⟨h1, h2, h3, h4⟩ rfl
theorem f29_F_1 (x0 : Int) (x1 : Int) (H : AHeap) (prot : Nat) (x15a : Option Addr) (x15n : Nat) (x15c : Nat) (H1 : AHeap) (x17 : ByteArray) (z4a : Option Addr) (z4n : Nat) (z4c : Nat) (z5 : Bool) (z7 : Value) (H2 : AHeap) (rv : Value) (rH : AHeap) (h1 : callInf cfg 35 [Value.int IntKind.i64 x0, Value.int IntKind.i64 x1] (List.length H) H = some (Value.slice x15a x15n x15c, H1)) (h2 : callInf cfg 41 [Value.slice x15a x15n x15c, Value.string { data := { toList := [] } }] (List.length H) H1 = some (Value.string x17, H1)) (h3 : lpInf (lpOf cfg a29 0 prot H) ([Value.int IntKind.i64 x0, Value.slice x15a x15n x15c, Value.slice (some { block := List.length H1, off := 0, spot := some (1 * 3) }) 1 1, Value.int IntKind.i64 0], H1 ++ [AObj.cells [Value.string { data := { toList := [] } }, Value.string x17, Value.slice none 0 0] 62 [Value.string { data := { toList := [] } }, Value.string x17, Value.slice none 0 0].length OMode.row]) = some (Ex.ret, [Value.slice z4a z4n z4c, Value.bool z5, z7], H2)) (h4 : pfin a29 H [Value.slice z4a z4n z4c, Value.bool z5] H2 = (rv, rH)) : callInf cfg 29 [.int .i64 x0, .int .i64 x1] prot H = some (rv, rH) :=
  fn_of' a29 [.r (.slice x15a x15n x15c) H1, .v (.string x17), .e, .e, .lo (.ret, [.slice z4a z4n z4c, .bool z5, z7], H2)] ((callInf cfg 35 [Value.int IntKind.i64 x0, Value.int IntKind.i64 x1] (List.length H) H = some (Value.slice x15a x15n x15c, H1)) ∧ (callInf cfg 41 [Value.slice x15a x15n x15c, Value.string { data := { toList := [] } }] (List.length H) H1 = some (Value.string x17, H1)) ∧ (lpInf (lpOf cfg a29 0 prot H) ([Value.int IntKind.i64 x0, Value.slice x15a x15n x15c, Value.slice (some { block := List.length H1, off := 0, spot := some (1 * 3) }) 1 1, Value.int IntKind.i64 0], H1 ++ [AObj.cells [Value.string { data := { toList := [] } }, Value.string x17, Value.slice none 0 0] 62 [Value.string { data := { toList := [] } }, Value.string x17, Value.slice none 0 0].length OMode.row]) = some (Ex.ret, [Value.slice z4a z4n z4c, Value.bool z5, z7], H2)) ∧ (pfin a29 H [Value.slice z4a z4n z4c, Value.bool z5] H2 = (rv, rH))) (by kernel_rfl) ⟨h1, h2, h3, h4⟩ rfl
theorem f29_L0_0 (x0 : Int) (x6a : Option Addr) (x6n : Nat) (x6c : Nat) (x7a : Option Addr) (x7n : Nat) (x7c : Nat) (x8 : Int) (H0 : AHeap) (prot : Nat) (H : AHeap) (z0 : Int) (z4 : Value) (z5 : Value) (z6a : Option Addr) (z6n : Nat) (z6c : Nat) (z7a : Option Addr) (z7n : Nat) (z7c : Nat) (z8 : Int) (H2 : AHeap) (h1 : x8 < (↑x7n : Int)) (h2 : lpInf (lpOf cfg a29 1 prot H0) ([Value.int IntKind.i64 x0, Value.slice x6a x6n x6c, Value.slice x7a x7n x7c, Value.int IntKind.i64 x8, Value.int IntKind.i64 0], H) = some (Ex.exit 2, [Value.int IntKind.i64 z0, z4, z5, Value.slice z6a z6n z6c, Value.slice z7a z7n z7c, Value.int IntKind.i64 z8], H2)) (h3 : Fit IntKind.i64 (z8 + 1)) : lpOf cfg a29 0 prot H0 ([.int .i64 x0, .slice x6a x6n x6c, .slice x7a x7n x7c, .int .i64 x8], H) = some (Sum.inl ([Value.int IntKind.i64 z0, Value.slice z6a z6n z6c, Value.slice z7a z7n z7c, Value.int IntKind.i64 (z8 + 1)], H2)) :=
  lp_of [.e, .e, .b true, .lo (.exit 2, [.int .i64 z0, z4, z5, .slice z6a z6n z6c, .slice z7a z7n z7c, .int .i64 z8], H2), .e] (fun e => (decide (x8 < (↑x7n : Int)) = true) ∧ (lpInf (lpOf cfg a29 1 prot H0) ([Value.int IntKind.i64 x0, Value.slice x6a x6n x6c, Value.slice x7a x7n x7c, Value.int IntKind.i64 x8, Value.int IntKind.i64 0], H) = some (Ex.exit 2, [Value.int IntKind.i64 z0, z4, z5, Value.slice z6a z6n z6c, Value.slice z7a z7n z7c, Value.int IntKind.i64 z8], H2)) ∧ (Fit IntKind.i64 (z8 + 1)) ∧ e) (by kernel_rfl) ⟨decide_eq_true h1, h2, h3, rfl⟩
theorem f29_L0_1 (x0 : Int) (x6a : Option Addr) (x6n : Nat) (x6c : Nat) (x7a : Option Addr) (x7n : Nat) (x7c : Nat) (x8 : Int) (H0 : AHeap) (prot : Nat) (H : AHeap) (z0 : Value) (z4a : Option Addr) (z4n : Nat) (z4c : Nat) (z5 : Bool) (z6 : Value) (z7 : Value) (z8 : Value) (H2 : AHeap) (h1 : x8 < (↑x7n : Int)) (h2 : lpInf (lpOf cfg a29 1 prot H0) ([Value.int IntKind.i64 x0, Value.slice x6a x6n x6c, Value.slice x7a x7n x7c, Value.int IntKind.i64 x8, Value.int IntKind.i64 0], H) = some (Ex.ret, [z0, Value.slice z4a z4n z4c, Value.bool z5, z6, z7, z8], H2)) : lpOf cfg a29 0 prot H0 ([.int .i64 x0, .slice x6a x6n x6c, .slice x7a x7n x7c, .int .i64 x8], H) = some (Sum.inr (Ex.ret, [Value.slice z4a z4n z4c, Value.bool z5, z7], H2)) :=
  lp_of [.e, .e, .b true, .lo (.ret, [z0, .slice z4a z4n z4c, .bool z5, z6, z7, z8], H2)] (fun e => (decide (x8 < (↑x7n : Int)) = true) ∧ (lpInf (lpOf cfg a29 1 prot H0) ([Value.int IntKind.i64 x0, Value.slice x6a x6n x6c, Value.slice x7a x7n x7c, Value.int IntKind.i64 x8, Value.int IntKind.i64 0], H) = some (Ex.ret, [z0, Value.slice z4a z4n z4c, Value.bool z5, z6, z7, z8], H2)) ∧ e) (by kernel_rfl) ⟨decide_eq_true h1, h2, rfl⟩
theorem f29_L0_2 (x0 : Int) (x6a : Option Addr) (x6n : Nat) (x6c : Nat) (x7a : Option Addr) (x7n : Nat) (x7c : Nat) (x8 : Int) (H0 : AHeap) (prot : Nat) (H : AHeap) (h1 : ¬(x8 < (↑x7n : Int))) : lpOf cfg a29 0 prot H0 ([.int .i64 x0, .slice x6a x6n x6c, .slice x7a x7n x7c, .int .i64 x8], H) = some (Sum.inr (Ex.exit 0, [Value.tuple { toList := [] }, Value.tuple { toList := [] }, Value.slice x7a x7n x7c], H)) :=
  lp_of [.e, .e, .b false] (fun e => (decide (x8 < (↑x7n : Int)) = false) ∧ e) (by kernel_rfl) ⟨decide_eq_false h1, rfl⟩
theorem f29_L1_0 (x0 : Int) (x6a : Option Addr) (x6n : Nat) (x6c : Nat) (x7a : Option Addr) (x7n : Nat) (x7c : Nat) (x8 : Int) (x9 : Int) (H0 : AHeap) (prot : Nat) (H : AHeap) (x33p : Nat) (x33o : Nat) (x33l : Nat) (x35 : ByteArray) (x40 : ByteArray) (x44 : ByteArray) (z0 : Int) (z6a : Option Addr) (z6n : Nat) (z6c : Nat) (z7a : Option Addr) (z7n : Nat) (z7c : Nat) (z8 : Int) (z9 : Int) (z10 : ByteArray) (z11 : ByteArray) (z12 : Int) (H2 : AHeap) (h1 : x9 < x0) (h2 : aindexAddr cfg.P 58 (Value.slice x7a x7n x7c) (Value.int IntKind.i64 x8) = some (Value.pointer (some { block := x33p, off := x33o, spot := some x33l }))) (h3 : getCells H x33p x33l (x33o + 0) 1 = some [Value.string x35]) (h4 : Fit IntKind.i64 (97 + x9)) (h5 : aconv cfg.P 79 9 (Value.slice (some { block := List.length H, off := 0, spot := some (1 * 1) }) 1 1) (H ++ [AObj.cells [Value.int IntKind.u8 (IntKind.u8.wrap (97 + x9))] 5 [Value.int IntKind.u8 (IntKind.u8.wrap (97 + x9))].length OMode.row]) = some (Value.string x40)) (h6 : x35.size + x40.size ≤ 9223372036854775807) (h7 : callInf cfg 41 [Value.slice x6a x6n x6c, Value.string (x35 ++ x40)] (List.length H0) (H ++ [AObj.cells [Value.int IntKind.u8 (IntKind.u8.wrap (97 + x9))] 5 [Value.int IntKind.u8 (IntKind.u8.wrap (97 + x9))].length OMode.row]) = some (Value.string x44, H ++ [AObj.cells [Value.int IntKind.u8 (IntKind.u8.wrap (97 + x9))] 5 [Value.int IntKind.u8 (IntKind.u8.wrap (97 + x9))].length OMode.row])) (h8 : lpInf (lpOf cfg a29 2 prot H0) ([Value.int IntKind.i64 x0, Value.slice x6a x6n x6c, Value.slice x7a x7n x7c, Value.int IntKind.i64 x8, Value.int IntKind.i64 x9, Value.string (x35 ++ x40), Value.string x44, Value.int IntKind.i64 0], H ++ [AObj.cells [Value.int IntKind.u8 (IntKind.u8.wrap (97 + x9))] 5 [Value.int IntKind.u8 (IntKind.u8.wrap (97 + x9))].length OMode.row]) = some (Ex.exit 4, [Value.int IntKind.i64 z0, Value.slice z6a z6n z6c, Value.slice z7a z7n z7c, Value.int IntKind.i64 z8, Value.int IntKind.i64 z9, Value.string z10, Value.string z11, Value.int IntKind.i64 z12], H2)) (h9 : (z12 == (↑z7n : Int)) = true) (h10 : (z12 == 3000) = true) : lpOf cfg a29 1 prot H0 ([.int .i64 x0, .slice x6a x6n x6c, .slice x7a x7n x7c, .int .i64 x8, .int .i64 x9], H) = some (Sum.inr (Ex.ret, [Value.int IntKind.i64 z0, Value.slice none 0 0, Value.bool false, Value.slice z6a z6n z6c, Value.slice z7a z7n z7c, Value.int IntKind.i64 z8], H2)) :=
  lp_of [.e, .b true, .v (.pointer (some ⟨x33p, x33o, some x33l⟩)), .v (.string x35), .e, .e, .e, .v (.string x40), .e, .v (.string x44), .lo (.exit 4, [.int .i64 z0, .slice z6a z6n z6c, .slice z7a z7n z7c, .int .i64 z8, .int .i64 z9, .string z10, .string z11, .int .i64 z12], H2), .e, .e, .b true, .e, .b true] (fun e => (decide (x9 < x0) = true) ∧ (aindexAddr cfg.P 58 (Value.slice x7a x7n x7c) (Value.int IntKind.i64 x8) = some (Value.pointer (some { block := x33p, off := x33o, spot := some x33l }))) ∧ (getCells H x33p x33l (x33o + 0) 1 = some [Value.string x35]) ∧ (Fit IntKind.i64 (97 + x9)) ∧ (aconv cfg.P 79 9 (Value.slice (some { block := List.length H, off := 0, spot := some (1 * 1) }) 1 1) (H ++ [AObj.cells [Value.int IntKind.u8 (IntKind.u8.wrap (97 + x9))] 5 [Value.int IntKind.u8 (IntKind.u8.wrap (97 + x9))].length OMode.row]) = some (Value.string x40)) ∧ (x35.size + x40.size ≤ 9223372036854775807) ∧ (callInf cfg 41 [Value.slice x6a x6n x6c, Value.string (x35 ++ x40)] (List.length H0) (H ++ [AObj.cells [Value.int IntKind.u8 (IntKind.u8.wrap (97 + x9))] 5 [Value.int IntKind.u8 (IntKind.u8.wrap (97 + x9))].length OMode.row]) = some (Value.string x44, H ++ [AObj.cells [Value.int IntKind.u8 (IntKind.u8.wrap (97 + x9))] 5 [Value.int IntKind.u8 (IntKind.u8.wrap (97 + x9))].length OMode.row])) ∧ (lpInf (lpOf cfg a29 2 prot H0) ([Value.int IntKind.i64 x0, Value.slice x6a x6n x6c, Value.slice x7a x7n x7c, Value.int IntKind.i64 x8, Value.int IntKind.i64 x9, Value.string (x35 ++ x40), Value.string x44, Value.int IntKind.i64 0], H ++ [AObj.cells [Value.int IntKind.u8 (IntKind.u8.wrap (97 + x9))] 5 [Value.int IntKind.u8 (IntKind.u8.wrap (97 + x9))].length OMode.row]) = some (Ex.exit 4, [Value.int IntKind.i64 z0, Value.slice z6a z6n z6c, Value.slice z7a z7n z7c, Value.int IntKind.i64 z8, Value.int IntKind.i64 z9, Value.string z10, Value.string z11, Value.int IntKind.i64 z12], H2)) ∧ ((z12 == (↑z7n : Int)) = true) ∧ ((z12 == 3000) = true) ∧ e) (by kernel_rfl) ⟨decide_eq_true h1, h2, h3, h4, h5, h6, h7, h8, h9, h10, rfl⟩
theorem f29_L1_1 (x0 : Int) (x6a : Option Addr) (x6n : Nat) (x6c : Nat) (x7a : Option Addr) (x7n : Nat) (x7c : Nat) (x8 : Int) (x9 : Int) (H0 : AHeap) (prot : Nat) (H : AHeap) (x33p : Nat) (x33o : Nat) (x33l : Nat) (x35 : ByteArray) (x40 : ByteArray) (x44 : ByteArray) (z0 : Int) (z6a : Option Addr) (z6n : Nat) (z6c : Nat) (z7a : Option Addr) (z7n : Nat) (z7c : Nat) (z8 : Int) (z9 : Int) (z10 : ByteArray) (z11 : ByteArray) (z12 : Int) (H2 : AHeap) (x71a : Option Addr) (x71n : Nat) (x71c : Nat) (H3 : AHeap) (x76p : Nat) (x76o : Nat) (x76l : Nat) (x78a : Option Addr) (x78n : Nat) (x78c : Nat) (x81a : Option Addr) (x81n : Nat) (x81c : Nat) (H4 : AHeap) (x82p : Nat) (x82o : Nat) (x82l : Nat) (H5 : AHeap) (h1 : x9 < x0) (h2 : aindexAddr cfg.P 58 (Value.slice x7a x7n x7c) (Value.int IntKind.i64 x8) = some (Value.pointer (some { block := x33p, off := x33o, spot := some x33l }))) (h3 : getCells H x33p x33l (x33o + 0) 1 = some [Value.string x35]) (h4 : Fit IntKind.i64 (97 + x9)) (h5 : aconv cfg.P 79 9 (Value.slice (some { block := List.length H, off := 0, spot := some (1 * 1) }) 1 1) (H ++ [AObj.cells [Value.int IntKind.u8 (IntKind.u8.wrap (97 + x9))] 5 [Value.int IntKind.u8 (IntKind.u8.wrap (97 + x9))].length OMode.row]) = some (Value.string x40)) (h6 : x35.size + x40.size ≤ 9223372036854775807) (h7 : callInf cfg 41 [Value.slice x6a x6n x6c, Value.string (x35 ++ x40)] (List.length H0) (H ++ [AObj.cells [Value.int IntKind.u8 (IntKind.u8.wrap (97 + x9))] 5 [Value.int IntKind.u8 (IntKind.u8.wrap (97 + x9))].length OMode.row]) = some (Value.string x44, H ++ [AObj.cells [Value.int IntKind.u8 (IntKind.u8.wrap (97 + x9))] 5 [Value.int IntKind.u8 (IntKind.u8.wrap (97 + x9))].length OMode.row])) (h8 : lpInf (lpOf cfg a29 2 prot H0) ([Value.int IntKind.i64 x0, Value.slice x6a x6n x6c, Value.slice x7a x7n x7c, Value.int IntKind.i64 x8, Value.int IntKind.i64 x9, Value.string (x35 ++ x40), Value.string x44, Value.int IntKind.i64 0], H ++ [AObj.cells [Value.int IntKind.u8 (IntKind.u8.wrap (97 + x9))] 5 [Value.int IntKind.u8 (IntKind.u8.wrap (97 + x9))].length OMode.row]) = some (Ex.exit 4, [Value.int IntKind.i64 z0, Value.slice z6a z6n z6c, Value.slice z7a z7n z7c, Value.int IntKind.i64 z8, Value.int IntKind.i64 z9, Value.string z10, Value.string z11, Value.int IntKind.i64 z12], H2)) (h9 : (z12 == (↑z7n : Int)) = true) (h10 : (z12 == 3000) = false) (h11 : aappend cfg.P (List.length H0) true 58 58 (Value.slice z7a z7n z7c) (Value.slice (some { block := List.length H2, off := 0, spot := some (1 * 3) }) 1 1) (H2 ++ [AObj.cells [Value.string z10, Value.string z11, Value.slice none 0 0] 62 [Value.string z10, Value.string z11, Value.slice none 0 0].length OMode.row]) = some (Value.slice x71a x71n x71c, H3)) (h12 : aindexAddr cfg.P 58 (Value.slice x71a x71n x71c) (Value.int IntKind.i64 z8) = some (Value.pointer (some { block := x76p, off := x76o, spot := some x76l }))) (h13 : getCells H3 x76p x76l (x76o + 2) 1 = some [Value.slice x78a x78n x78c]) (h14 : aappend cfg.P (List.length H0) true 54 54 (Value.slice x78a x78n x78c) (Value.slice (some { block := List.length H3, off := 0, spot := some (1 * 1) }) 1 1) (H3 ++ [AObj.cells [Value.int IntKind.i64 z12] 3 [Value.int IntKind.i64 z12].length OMode.row]) = some (Value.slice x81a x81n x81c, H4)) (h15 : aindexAddr cfg.P 58 (Value.slice x71a x71n x71c) (Value.int IntKind.i64 z8) = some (Value.pointer (some { block := x82p, off := x82o, spot := some x82l }))) (h16 : [Value.slice x81a x81n x81c].length = 1) (h17 : setCells H4 (List.length H0) x82p x82l (x82o + 2) [Value.slice x81a x81n x81c] = some H5) (h18 : Fit IntKind.i64 (z9 + 1)) : lpOf cfg a29 1 prot H0 ([.int .i64 x0, .slice x6a x6n x6c, .slice x7a x7n x7c, .int .i64 x8, .int .i64 x9], H) = some (Sum.inl ([Value.int IntKind.i64 z0, Value.slice z6a z6n z6c, Value.slice x71a x71n x71c, Value.int IntKind.i64 z8, Value.int IntKind.i64 (z9 + 1)], H5)) :=
  lp_of [.e, .b true, .v (.pointer (some ⟨x33p, x33o, some x33l⟩)), .v (.string x35), .e, .e, .e, .v (.string x40), .e, .v (.string x44), .lo (.exit 4, [.int .i64 z0, .slice z6a z6n z6c, .slice z7a z7n z7c, .int .i64 z8, .int .i64 z9, .string z10, .string z11, .int .i64 z12], H2), .e, .e, .b true, .e, .b false, .e, .e, .r (.slice x71a x71n x71c) H3, .v (.pointer (some ⟨x76p, x76o, some x76l⟩)), .v (.slice x78a x78n x78c), .e, .r (.slice x81a x81n x81c) H4, .v (.pointer (some ⟨x82p, x82o, some x82l⟩)), .h H5, .e] (fun e => (decide (x9 < x0) = true) ∧ (aindexAddr cfg.P 58 (Value.slice x7a x7n x7c) (Value.int IntKind.i64 x8) = some (Value.pointer (some { block := x33p, off := x33o, spot := some x33l }))) ∧ (getCells H x33p x33l (x33o + 0) 1 = some [Value.string x35]) ∧ (Fit IntKind.i64 (97 + x9)) ∧ (aconv cfg.P 79 9 (Value.slice (some { block := List.length H, off := 0, spot := some (1 * 1) }) 1 1) (H ++ [AObj.cells [Value.int IntKind.u8 (IntKind.u8.wrap (97 + x9))] 5 [Value.int IntKind.u8 (IntKind.u8.wrap (97 + x9))].length OMode.row]) = some (Value.string x40)) ∧ (x35.size + x40.size ≤ 9223372036854775807) ∧ (callInf cfg 41 [Value.slice x6a x6n x6c, Value.string (x35 ++ x40)] (List.length H0) (H ++ [AObj.cells [Value.int IntKind.u8 (IntKind.u8.wrap (97 + x9))] 5 [Value.int IntKind.u8 (IntKind.u8.wrap (97 + x9))].length OMode.row]) = some (Value.string x44, H ++ [AObj.cells [Value.int IntKind.u8 (IntKind.u8.wrap (97 + x9))] 5 [Value.int IntKind.u8 (IntKind.u8.wrap (97 + x9))].length OMode.row])) ∧ (lpInf (lpOf cfg a29 2 prot H0) ([Value.int IntKind.i64 x0, Value.slice x6a x6n x6c, Value.slice x7a x7n x7c, Value.int IntKind.i64 x8, Value.int IntKind.i64 x9, Value.string (x35 ++ x40), Value.string x44, Value.int IntKind.i64 0], H ++ [AObj.cells [Value.int IntKind.u8 (IntKind.u8.wrap (97 + x9))] 5 [Value.int IntKind.u8 (IntKind.u8.wrap (97 + x9))].length OMode.row]) = some (Ex.exit 4, [Value.int IntKind.i64 z0, Value.slice z6a z6n z6c, Value.slice z7a z7n z7c, Value.int IntKind.i64 z8, Value.int IntKind.i64 z9, Value.string z10, Value.string z11, Value.int IntKind.i64 z12], H2)) ∧ ((z12 == (↑z7n : Int)) = true) ∧ ((z12 == 3000) = false) ∧ (aappend cfg.P (List.length H0) true 58 58 (Value.slice z7a z7n z7c) (Value.slice (some { block := List.length H2, off := 0, spot := some (1 * 3) }) 1 1) (H2 ++ [AObj.cells [Value.string z10, Value.string z11, Value.slice none 0 0] 62 [Value.string z10, Value.string z11, Value.slice none 0 0].length OMode.row]) = some (Value.slice x71a x71n x71c, H3)) ∧ (aindexAddr cfg.P 58 (Value.slice x71a x71n x71c) (Value.int IntKind.i64 z8) = some (Value.pointer (some { block := x76p, off := x76o, spot := some x76l }))) ∧ (getCells H3 x76p x76l (x76o + 2) 1 = some [Value.slice x78a x78n x78c]) ∧ (aappend cfg.P (List.length H0) true 54 54 (Value.slice x78a x78n x78c) (Value.slice (some { block := List.length H3, off := 0, spot := some (1 * 1) }) 1 1) (H3 ++ [AObj.cells [Value.int IntKind.i64 z12] 3 [Value.int IntKind.i64 z12].length OMode.row]) = some (Value.slice x81a x81n x81c, H4)) ∧ (aindexAddr cfg.P 58 (Value.slice x71a x71n x71c) (Value.int IntKind.i64 z8) = some (Value.pointer (some { block := x82p, off := x82o, spot := some x82l }))) ∧ ([Value.slice x81a x81n x81c].length = 1) ∧ (setCells H4 (List.length H0) x82p x82l (x82o + 2) [Value.slice x81a x81n x81c] = some H5) ∧ (Fit IntKind.i64 (z9 + 1)) ∧ e) (by kernel_rfl) ⟨decide_eq_true h1, h2, h3, h4, h5, h6, h7, h8, h9, h10, h11, h12, h13, h14, h15, h16, h17, h18, rfl⟩
theorem f29_L1_2 (x0 : Int) (x6a : Option Addr) (x6n : Nat) (x6c : Nat) (x7a : Option Addr) (x7n : Nat) (x7c : Nat) (x8 : Int) (x9 : Int) (H0 : AHeap) (prot : Nat) (H : AHeap) (x33p : Nat) (x33o : Nat) (x33l : Nat) (x35 : ByteArray) (x40 : ByteArray) (x44 : ByteArray) (z0 : Int) (z6a : Option Addr) (z6n : Nat) (z6c : Nat) (z7a : Option Addr) (z7n : Nat) (z7c : Nat) (z8 : Int) (z9 : Int) (z10 : ByteArray) (z11 : ByteArray) (z12 : Int) (H2 : AHeap) (x76p : Nat) (x76o : Nat) (x76l : Nat) (x78a : Option Addr) (x78n : Nat) (x78c : Nat) (x81a : Option Addr) (x81n : Nat) (x81c : Nat) (H3 : AHeap) (x82p : Nat) (x82o : Nat) (x82l : Nat) (H4 : AHeap) (h1 : x9 < x0) (h2 : aindexAddr cfg.P 58 (Value.slice x7a x7n x7c) (Value.int IntKind.i64 x8) = some (Value.pointer (some { block := x33p, off := x33o, spot := some x33l }))) (h3 : getCells H x33p x33l (x33o + 0) 1 = some [Value.string x35]) (h4 : Fit IntKind.i64 (97 + x9)) (h5 : aconv cfg.P 79 9 (Value.slice (some { block := List.length H, off := 0, spot := some (1 * 1) }) 1 1) (H ++ [AObj.cells [Value.int IntKind.u8 (IntKind.u8.wrap (97 + x9))] 5 [Value.int IntKind.u8 (IntKind.u8.wrap (97 + x9))].length OMode.row]) = some (Value.string x40)) (h6 : x35.size + x40.size ≤ 9223372036854775807) (h7 : callInf cfg 41 [Value.slice x6a x6n x6c, Value.string (x35 ++ x40)] (List.length H0) (H ++ [AObj.cells [Value.int IntKind.u8 (IntKind.u8.wrap (97 + x9))] 5 [Value.int IntKind.u8 (IntKind.u8.wrap (97 + x9))].length OMode.row]) = some (Value.string x44, H ++ [AObj.cells [Value.int IntKind.u8 (IntKind.u8.wrap (97 + x9))] 5 [Value.int IntKind.u8 (IntKind.u8.wrap (97 + x9))].length OMode.row])) (h8 : lpInf (lpOf cfg a29 2 prot H0) ([Value.int IntKind.i64 x0, Value.slice x6a x6n x6c, Value.slice x7a x7n x7c, Value.int IntKind.i64 x8, Value.int IntKind.i64 x9, Value.string (x35 ++ x40), Value.string x44, Value.int IntKind.i64 0], H ++ [AObj.cells [Value.int IntKind.u8 (IntKind.u8.wrap (97 + x9))] 5 [Value.int IntKind.u8 (IntKind.u8.wrap (97 + x9))].length OMode.row]) = some (Ex.exit 4, [Value.int IntKind.i64 z0, Value.slice z6a z6n z6c, Value.slice z7a z7n z7c, Value.int IntKind.i64 z8, Value.int IntKind.i64 z9, Value.string z10, Value.string z11, Value.int IntKind.i64 z12], H2)) (h9 : (z12 == (↑z7n : Int)) = false) (h10 : aindexAddr cfg.P 58 (Value.slice z7a z7n z7c) (Value.int IntKind.i64 z8) = some (Value.pointer (some { block := x76p, off := x76o, spot := some x76l }))) (h11 : getCells H2 x76p x76l (x76o + 2) 1 = some [Value.slice x78a x78n x78c]) (h12 : aappend cfg.P (List.length H0) true 54 54 (Value.slice x78a x78n x78c) (Value.slice (some { block := List.length H2, off := 0, spot := some (1 * 1) }) 1 1) (H2 ++ [AObj.cells [Value.int IntKind.i64 z12] 3 [Value.int IntKind.i64 z12].length OMode.row]) = some (Value.slice x81a x81n x81c, H3)) (h13 : aindexAddr cfg.P 58 (Value.slice z7a z7n z7c) (Value.int IntKind.i64 z8) = some (Value.pointer (some { block := x82p, off := x82o, spot := some x82l }))) (h14 : [Value.slice x81a x81n x81c].length = 1) (h15 : setCells H3 (List.length H0) x82p x82l (x82o + 2) [Value.slice x81a x81n x81c] = some H4) (h16 : Fit IntKind.i64 (z9 + 1)) : lpOf cfg a29 1 prot H0 ([.int .i64 x0, .slice x6a x6n x6c, .slice x7a x7n x7c, .int .i64 x8, .int .i64 x9], H) = some (Sum.inl ([Value.int IntKind.i64 z0, Value.slice z6a z6n z6c, Value.slice z7a z7n z7c, Value.int IntKind.i64 z8, Value.int IntKind.i64 (z9 + 1)], H4)) :=
  lp_of [.e, .b true, .v (.pointer (some ⟨x33p, x33o, some x33l⟩)), .v (.string x35), .e, .e, .e, .v (.string x40), .e, .v (.string x44), .lo (.exit 4, [.int .i64 z0, .slice z6a z6n z6c, .slice z7a z7n z7c, .int .i64 z8, .int .i64 z9, .string z10, .string z11, .int .i64 z12], H2), .e, .e, .b false, .v (.pointer (some ⟨x76p, x76o, some x76l⟩)), .v (.slice x78a x78n x78c), .e, .r (.slice x81a x81n x81c) H3, .v (.pointer (some ⟨x82p, x82o, some x82l⟩)), .h H4, .e] (fun e => (decide (x9 < x0) = true) ∧ (aindexAddr cfg.P 58 (Value.slice x7a x7n x7c) (Value.int IntKind.i64 x8) = some (Value.pointer (some { block := x33p, off := x33o, spot := some x33l }))) ∧ (getCells H x33p x33l (x33o + 0) 1 = some [Value.string x35]) ∧ (Fit IntKind.i64 (97 + x9)) ∧ (aconv cfg.P 79 9 (Value.slice (some { block := List.length H, off := 0, spot := some (1 * 1) }) 1 1) (H ++ [AObj.cells [Value.int IntKind.u8 (IntKind.u8.wrap (97 + x9))] 5 [Value.int IntKind.u8 (IntKind.u8.wrap (97 + x9))].length OMode.row]) = some (Value.string x40)) ∧ (x35.size + x40.size ≤ 9223372036854775807) ∧ (callInf cfg 41 [Value.slice x6a x6n x6c, Value.string (x35 ++ x40)] (List.length H0) (H ++ [AObj.cells [Value.int IntKind.u8 (IntKind.u8.wrap (97 + x9))] 5 [Value.int IntKind.u8 (IntKind.u8.wrap (97 + x9))].length OMode.row]) = some (Value.string x44, H ++ [AObj.cells [Value.int IntKind.u8 (IntKind.u8.wrap (97 + x9))] 5 [Value.int IntKind.u8 (IntKind.u8.wrap (97 + x9))].length OMode.row])) ∧ (lpInf (lpOf cfg a29 2 prot H0) ([Value.int IntKind.i64 x0, Value.slice x6a x6n x6c, Value.slice x7a x7n x7c, Value.int IntKind.i64 x8, Value.int IntKind.i64 x9, Value.string (x35 ++ x40), Value.string x44, Value.int IntKind.i64 0], H ++ [AObj.cells [Value.int IntKind.u8 (IntKind.u8.wrap (97 + x9))] 5 [Value.int IntKind.u8 (IntKind.u8.wrap (97 + x9))].length OMode.row]) = some (Ex.exit 4, [Value.int IntKind.i64 z0, Value.slice z6a z6n z6c, Value.slice z7a z7n z7c, Value.int IntKind.i64 z8, Value.int IntKind.i64 z9, Value.string z10, Value.string z11, Value.int IntKind.i64 z12], H2)) ∧ ((z12 == (↑z7n : Int)) = false) ∧ (aindexAddr cfg.P 58 (Value.slice z7a z7n z7c) (Value.int IntKind.i64 z8) = some (Value.pointer (some { block := x76p, off := x76o, spot := some x76l }))) ∧ (getCells H2 x76p x76l (x76o + 2) 1 = some [Value.slice x78a x78n x78c]) ∧ (aappend cfg.P (List.length H0) true 54 54 (Value.slice x78a x78n x78c) (Value.slice (some { block := List.length H2, off := 0, spot := some (1 * 1) }) 1 1) (H2 ++ [AObj.cells [Value.int IntKind.i64 z12] 3 [Value.int IntKind.i64 z12].length OMode.row]) = some (Value.slice x81a x81n x81c, H3)) ∧ (aindexAddr cfg.P 58 (Value.slice z7a z7n z7c) (Value.int IntKind.i64 z8) = some (Value.pointer (some { block := x82p, off := x82o, spot := some x82l }))) ∧ ([Value.slice x81a x81n x81c].length = 1) ∧ (setCells H3 (List.length H0) x82p x82l (x82o + 2) [Value.slice x81a x81n x81c] = some H4) ∧ (Fit IntKind.i64 (z9 + 1)) ∧ e) (by kernel_rfl) ⟨decide_eq_true h1, h2, h3, h4, h5, h6, h7, h8, h9, h10, h11, h12, h13, h14, h15, h16, rfl⟩
theorem f29_L1_3 (x0 : Int) (x6a : Option Addr) (x6n : Nat) (x6c : Nat) (x7a : Option Addr) (x7n : Nat) (x7c : Nat) (x8 : Int) (x9 : Int) (H0 : AHeap) (prot : Nat) (H : AHeap) (h1 : ¬(x9 < x0)) : lpOf cfg a29 1 prot H0 ([.int .i64 x0, .slice x6a x6n x6c, .slice x7a x7n x7c, .int .i64 x8, .int .i64 x9], H) = some (Sum.inr (Ex.exit 2, [Value.int IntKind.i64 x0, Value.tuple { toList := [] }, Value.tuple { toList := [] }, Value.slice x6a x6n x6c, Value.slice x7a x7n x7c, Value.int IntKind.i64 x8], H)) :=
  lp_of [.e, .b false] (fun e => (decide (x9 < x0) = false) ∧ e) (by kernel_rfl) ⟨decide_eq_false h1, rfl⟩
theorem f29_L2_0 (x0 : Int) (x6a : Option Addr) (x6n : Nat) (x6c : Nat) (x7a : Option Addr) (x7n : Nat) (x7c : Nat) (x8 : Int) (x9 : Int) (x10 : ByteArray) (x11 : ByteArray) (x12 : Int) (H0 : AHeap) (prot : Nat) (H : AHeap) (x52p : Nat) (x52o : Nat) (x52l : Nat) (x54 : ByteArray) (h1 : x12 < (↑x7n : Int)) (h2 : aindexAddr cfg.P 58 (Value.slice x7a x7n x7c) (Value.int IntKind.i64 x12) = some (Value.pointer (some { block := x52p, off := x52o, spot := some x52l }))) (h3 : getCells H x52p x52l (x52o + 1) 1 = some [Value.string x54]) (h4 : (!x54.toList == x11.toList) = true) (h5 : Fit IntKind.i64 (x12 + 1)) : lpOf cfg a29 2 prot H0 ([.int .i64 x0, .slice x6a x6n x6c, .slice x7a x7n x7c, .int .i64 x8, .int .i64 x9, .string x10, .string x11, .int .i64 x12], H) = some (Sum.inl ([Value.int IntKind.i64 x0, Value.slice x6a x6n x6c, Value.slice x7a x7n x7c, Value.int IntKind.i64 x8, Value.int IntKind.i64 x9, Value.string x10, Value.string x11, Value.int IntKind.i64 (x12 + 1)], H)) :=
  lp_of [.e, .e, .b true, .b true, .b true, .v (.pointer (some ⟨x52p, x52o, some x52l⟩)), .b true, .b true, .v (.string x54), .b true, .b true, .e, .b true, .b true, .e] (fun e => (decide (x12 < (↑x7n : Int)) = true) ∧ (decide (x12 < (↑x7n : Int)) = true) ∧ (decide (x12 < (↑x7n : Int)) = true) ∧ (aindexAddr cfg.P 58 (Value.slice x7a x7n x7c) (Value.int IntKind.i64 x12) = some (Value.pointer (some { block := x52p, off := x52o, spot := some x52l }))) ∧ (decide (x12 < (↑x7n : Int)) = true) ∧ (decide (x12 < (↑x7n : Int)) = true) ∧ (getCells H x52p x52l (x52o + 1) 1 = some [Value.string x54]) ∧ (decide (x12 < (↑x7n : Int)) = true) ∧ (decide (x12 < (↑x7n : Int)) = true) ∧ (decide (x12 < (↑x7n : Int)) = true) ∧ ((!x54.toList == x11.toList) = true) ∧ (Fit IntKind.i64 (x12 + 1)) ∧ e) (by kernel_rfl) ⟨decide_eq_true h1, decide_eq_true h1, decide_eq_true h1, h2, decide_eq_true h1, decide_eq_true h1, h3, decide_eq_true h1, decide_eq_true h1, decide_eq_true h1, h4, h5, rfl⟩
theorem f29_L2_1 (x0 : Int) (x6a : Option Addr) (x6n : Nat) (x6c : Nat) (x7a : Option Addr) (x7n : Nat) (x7c : Nat) (x8 : Int) (x9 : Int) (x10 : ByteArray) (x11 : ByteArray) (x12 : Int) (H0 : AHeap) (prot : Nat) (H : AHeap) (x52p : Nat) (x52o : Nat) (x52l : Nat) (x54 : ByteArray) (h1 : x12 < (↑x7n : Int)) (h2 : aindexAddr cfg.P 58 (Value.slice x7a x7n x7c) (Value.int IntKind.i64 x12) = some (Value.pointer (some { block := x52p, off := x52o, spot := some x52l }))) (h3 : getCells H x52p x52l (x52o + 1) 1 = some [Value.string x54]) (h4 : (!x54.toList == x11.toList) = false) : lpOf cfg a29 2 prot H0 ([.int .i64 x0, .slice x6a x6n x6c, .slice x7a x7n x7c, .int .i64 x8, .int .i64 x9, .string x10, .string x11, .int .i64 x12], H) = some (Sum.inr (Ex.exit 4, [Value.int IntKind.i64 x0, Value.slice x6a x6n x6c, Value.slice x7a x7n x7c, Value.int IntKind.i64 x8, Value.int IntKind.i64 x9, Value.string x10, Value.string x11, Value.int IntKind.i64 x12], H)) :=
  lp_of [.e, .e, .b true, .b true, .b true, .v (.pointer (some ⟨x52p, x52o, some x52l⟩)), .b true, .b true, .v (.string x54), .b true, .b true, .e, .b true, .b false] (fun e => (decide (x12 < (↑x7n : Int)) = true) ∧ (decide (x12 < (↑x7n : Int)) = true) ∧ (decide (x12 < (↑x7n : Int)) = true) ∧ (aindexAddr cfg.P 58 (Value.slice x7a x7n x7c) (Value.int IntKind.i64 x12) = some (Value.pointer (some { block := x52p, off := x52o, spot := some x52l }))) ∧ (decide (x12 < (↑x7n : Int)) = true) ∧ (decide (x12 < (↑x7n : Int)) = true) ∧ (getCells H x52p x52l (x52o + 1) 1 = some [Value.string x54]) ∧ (decide (x12 < (↑x7n : Int)) = true) ∧ (decide (x12 < (↑x7n : Int)) = true) ∧ (decide (x12 < (↑x7n : Int)) = true) ∧ ((!x54.toList == x11.toList) = false) ∧ e) (by kernel_rfl) ⟨decide_eq_true h1, decide_eq_true h1, decide_eq_true h1, h2, decide_eq_true h1, decide_eq_true h1, h3, decide_eq_true h1, decide_eq_true h1, decide_eq_true h1, h4, rfl⟩
theorem f29_L2_2 (x0 : Int) (x6a : Option Addr) (x6n : Nat) (x6c : Nat) (x7a : Option Addr) (x7n : Nat) (x7c : Nat) (x8 : Int) (x9 : Int) (x10 : ByteArray) (x11 : ByteArray) (x12 : Int) (H0 : AHeap) (prot : Nat) (H : AHeap) (h1 : ¬(x12 < (↑x7n : Int))) : lpOf cfg a29 2 prot H0 ([.int .i64 x0, .slice x6a x6n x6c, .slice x7a x7n x7c, .int .i64 x8, .int .i64 x9, .string x10, .string x11, .int .i64 x12], H) = some (Sum.inr (Ex.exit 4, [Value.int IntKind.i64 x0, Value.slice x6a x6n x6c, Value.slice x7a x7n x7c, Value.int IntKind.i64 x8, Value.int IntKind.i64 x9, Value.string x10, Value.string x11, Value.int IntKind.i64 x12], H)) :=
  lp_of [.e, .e, .b false, .b false, .b false, .b false, .b false, .b false, .b false, .b false, .b false] (fun e => (decide (x12 < (↑x7n : Int)) = false) ∧ (decide (x12 < (↑x7n : Int)) = false) ∧ (decide (x12 < (↑x7n : Int)) = false) ∧ (decide (x12 < (↑x7n : Int)) = false) ∧ (decide (x12 < (↑x7n : Int)) = false) ∧ (decide (x12 < (↑x7n : Int)) = false) ∧ (decide (x12 < (↑x7n : Int)) = false) ∧ (decide (x12 < (↑x7n : Int)) = false) ∧ (false = false) ∧ e) (by kernel_rfl) ⟨decide_eq_false h1, decide_eq_false h1, decide_eq_false h1, decide_eq_false h1, decide_eq_false h1, decide_eq_false h1, decide_eq_false h1, decide_eq_false h1, rfl, rfl⟩
end Go.Proofs.Ytedfombojnfbiaa.Am24
namespace Go.Proofs.Ytedfombojnfbiaa.Am24
open Go Go.Proofs.Ytedfombojnfbiaa.Am

theorem T58 : ElemT cfg.P 58 62 3 56 := ⟨by kernel_rfl, by kernel_rfl, by kernel_rfl, ⟨.agg #[.string ⟨#[]⟩, .string ⟨#[]⟩, .slice none 0 0], by kernel_rfl, rfl⟩, by kernel_rfl, by omega, by omega⟩
theorem T54' : ElemT cfg.P 54 3 1 8 := ⟨by kernel_rfl, by kernel_rfl, by kernel_rfl, ⟨.int .i64 0, by kernel_rfl, rfl⟩, by kernel_rfl, by omega, by omega⟩

/-- The cells of the classes. -/
def cc (k N : Nat) (nv : Nat → Value) : List ByteArray → Nat → List Value
  | [], _ => []
  | w :: ws, j => .string w :: .string (tru k N w) :: nv j :: cc k N nv ws (j + 1)
theorem cc_len (k N : Nat) (nv : Nat → Value) : ∀ (ws : List ByteArray) (j : Nat), (cc k N nv ws j).length = ws.length * 3
  | [], _ => rfl
  | w :: ws, j => by simp only [cc, List.length_cons, cc_len k N nv ws (j + 1)]; omega
theorem cc_snoc (k N : Nat) (nv : Nat → Value) (w : ByteArray) : ∀ (ws : List ByteArray) (j : Nat), cc k N nv (ws ++ [w]) j = cc k N nv ws j ++ [.string w, .string (tru k N w), nv (j + ws.length)]
  | [], j => rfl
  | u :: ws, j => by
    simp only [List.cons_append, cc, cc_snoc k N nv w ws (j + 1), List.length_cons]
    rw [show j + 1 + ws.length = j + (ws.length + 1) by omega]
theorem cc_congr (k N : Nat) {nv nv' : Nat → Value} : ∀ (ws : List ByteArray) (j : Nat), (∀ i, j ≤ i → i < j + ws.length → nv i = nv' i) → cc k N nv ws j = cc k N nv' ws j
  | [], _, _ => rfl
  | u :: ws, j, h => by
    simp only [List.length_cons] at h
    simp only [cc]
    rw [h j (by omega) (by omega), cc_congr k N ws (j + 1) (fun i h1 h2 => h i (by omega) (by omega))]
theorem cc_drop (k N : Nat) (nv : Nat → Value) : ∀ (ws : List ByteArray) (i j : Nat) (h : i < ws.length), (cc k N nv ws j).drop (i * 3) = .string ws[i] :: .string (tru k N ws[i]) :: nv (j + i) :: cc k N nv (ws.drop (i + 1)) (j + i + 1)
  | [], i, j, h => by simp at h
  | w :: ws, 0, j, h => by simp [cc]
  | w :: ws, i + 1, j, h => by
    have := cc_drop k N nv ws i (j + 1) (by simpa using h)
    rw [show (i + 1) * 3 = i * 3 + 1 + 1 + 1 by omega]
    simp only [cc, List.drop_succ_cons, List.getElem_cons_succ]
    rw [this]
    rw [show j + 1 + i = j + (i + 1) by omega]
theorem cc_get (k N : Nat) (nv : Nat → Value) {ws : List ByteArray} {i : Nat} (h : i < ws.length) (j : Nat) {v : Value} (hv : [Value.string ws[i], .string (tru k N ws[i]), nv i][j]? = some v) : ((cc k N nv ws 0).drop (i * 3 + j)).take 1 = [v] := by
  rw [← List.drop_drop, cc_drop k N nv ws i 0 h, Nat.zero_add]
  match j, hv with
  | 0, hv => cases hv; rfl
  | 1, hv => cases hv; rfl
  | 2, hv => cases hv; rfl
theorem cc_put (k N : Nat) (nv : Nat → Value) (v : Value) : ∀ (ws : List ByteArray) (i j : Nat), i < ws.length → putList (cc k N nv ws j) (i * 3 + 2) [v] = cc k N (fun q => if q = j + i then v else nv q) ws j
  | [], i, j, h => by simp at h
  | w :: ws, 0, j, h => by
    simp only [cc, Nat.zero_mul, Nat.zero_add, Nat.add_zero]
    rw [cc_congr k N (nv := nv) (nv' := fun q => if q = j then v else nv q) ws (j + 1) (fun i h1 _ => (if_neg (by omega)).symm)]
    simp [putList]
  | w :: ws, i + 1, j, h => by
    have := cc_put k N nv v ws i (j + 1) (by simpa using h)
    rw [show j + 1 + i = j + (i + 1) by omega] at this
    simp only [cc]
    rw [← this, if_neg (by omega)]
    unfold putList
    rw [show (i + 1) * 3 + 2 = (i * 3 + 2) + 1 + 1 + 1 by omega, show (i * 3 + 2) + 1 + 1 + 1 + [v].length = (i * 3 + 2 + [v].length) + 1 + 1 + 1 by omega]
    simp only [List.take_succ_cons, List.drop_succ_cons, List.cons_append]

def nn (k : Nat) (nx : List Nat) (j : Nat) : List Nat := (nx.drop (j * k)).take k
theorem nn_push {k : Nat} {nx : List Nat} {i l e : Nat} (hl : l < k) (hn : nx.length = i * k + l) (j : Nat) : nn k (nx ++ [e]) j = if j = i then nn k nx j ++ [e] else nn k nx j := by
  unfold nn
  by_cases h : j = i
  · subst h
    rw [if_pos rfl, List.drop_append_of_le_length (by omega)]
    rw [List.take_of_length_le (by simp; omega), List.take_of_length_le (by simp; omega)]
  · rw [if_neg h]
    by_cases hj : j < i
    · have := Nat.mul_le_mul (show j + 1 ≤ i by omega) (Nat.le_refl k)
      rw [Nat.add_mul, Nat.one_mul] at this
      rw [List.drop_append_of_le_length (by omega), List.take_append_of_le_length (by simp; omega)]
    · have := Nat.mul_le_mul (show i + 1 ≤ j by omega) (Nat.le_refl k)
      rw [Nat.add_mul, Nat.one_mul] at this
      rw [List.drop_of_length_le (by simp; omega), List.drop_of_length_le (by omega)]
theorem nn_len {k : Nat} {nx : List Nat} {i l : Nat} (hl : l ≤ k) (hn : nx.length = i * k + l) : (nn k nx i).length = l := by
  unfold nn
  rw [List.take_of_length_le (by simp; omega)]
  simp
  omega
theorem nn_none {k : Nat} {nx : List Nat} {i l j : Nat} (hl : l ≤ k) (hn : nx.length = i * k + l) (hj : i < j) : nn k nx j = [] := by
  have := Nat.mul_le_mul (show i + 1 ≤ j by omega) (Nat.le_refl k)
  rw [Nat.add_mul, Nat.one_mul] at this
  unfold nn
  rw [List.drop_of_length_le (by omega)]
  simp

/-- Where the loop over the classes stops. -/
def fnd (k N : Nat) (w : ByteArray) : List ByteArray → Nat → Nat
  | [], j => j
  | u :: l, j => if dif k u w N 0 = none then j else fnd k N w l (j + 1)
theorem fnd_findC (k N : Nat) (w : ByteArray) : ∀ (l : List ByteArray) (j : Nat), fnd k N w l j = j + (findC k N l w).getD l.length
  | [], j => by simp [fnd, findC]
  | u :: l, j => by
    have ih := fnd_findC k N w l (j + 1)
    unfold findC at ih ⊢
    rw [List.findIdx?_cons]
    simp only [fnd]
    by_cases h : dif k u w N 0 = none
    · rw [if_pos h, h]
      simp
    · rw [if_neg h, ih]
      have hf : (dif k u w N 0).isNone = false := by
        cases hd : dif k u w N 0 with
        | none => exact absurd hd h
        | some x => rfl
      rw [hf]
      cases l.findIdx? fun u => (dif k u w N 0).isNone <;> simp <;> omega

structure Inv2 (k n : Nat) (H0 H : AHeap) (ws : List ByteArray) (nx : List Nat) (x6 x7 : Value) (o6 o7 : Nat) (nv : Nat → Value) (nid : Nat → Option Nat) : Prop where
  s : Own H 9 1 x6 (some o6) (sho k (n + 1)) (sc (wds k (sho k (n + 1))))
  c : Own H 62 3 x7 (some o7) ws.length (cc k (sho k (n + 1)) nv ws 0)
  x : ∀ j, j < ws.length → Own H 3 1 (nv j) (nid j) (nn k nx j).length (ic (nn k nx j))
  b6 : H0.length ≤ o6
  b7 : H0.length ≤ o7
  d : o6 ≠ o7
  bn : ∀ j id, j < ws.length → nid j = some id → H0.length ≤ id ∧ id ≠ o6 ∧ id ≠ o7
  dn : ∀ j j' id, j < ws.length → j' < ws.length → nid j = some id → nid j' = some id → j = j'
  st : Stay none H0 H

theorem own_lt {H : AHeap} {e s : Nat} {x : Value} {id n : Nat} {cs : List Value} (h : Own H e s x (some id) n cs) : id < H.length := (List.getElem?_eq_some_iff.1 h.2.2.2.choose_spec.2).1
theorem Inv2.stay {k n : Nat} {H0 H H' : AHeap} {ws : List ByteArray} {nx : List Nat} {x6 x7 : Value} {o6 o7 : Nat} {nv : Nat → Value} {nid : Nat → Option Nat} (h : Inv2 k n H0 H ws nx x6 x7 o6 o7 nv nid) (hs : Stay none H H') : Inv2 k n H0 H' ws nx x6 x7 o6 o7 nv nid :=
  ⟨h.s.stay hs (fun _ _ h => by cases h), h.c.stay hs (fun _ _ h => by cases h), fun j hj => (h.x j hj).stay hs (fun _ _ h => by cases h), h.b6, h.b7, h.d, h.bn, h.dn, h.st.over hs (fun _ h => by cases h)⟩

theorem loop29f {k n : Nat} (H0 H : AHeap) (prot : Nat) {ws : List ByteArray} {x6 x7 : Value} {o7 : Nat} {nv : Nat → Value} {i l : Int} {w : ByteArray} (hle : ws.length ≤ 3000) {a6 : Option Addr} {n6 c6 : Nat} (h6 : x6 = .slice a6 n6 c6) (hc : Own H 62 3 x7 (some o7) ws.length (cc k (sho k (n + 1)) nv ws 0)) : ∀ (d j : Nat), j + d = ws.length →
    lpInf (lpOf cfg a29 2 prot H0) ([.int .i64 k, x6, x7, .int .i64 i, .int .i64 l, .string w, .string (tru k (sho k (n + 1)) w), .int .i64 j], H) =
      some (.exit 4, [.int .i64 k, x6, x7, .int .i64 i, .int .i64 l, .string w, .string (tru k (sho k (n + 1)) w), .int .i64 (fnd k (sho k (n + 1)) w (ws.drop j) j : Nat)], H)
  | 0, j, hj => by
    obtain ⟨a, c, rfl⟩ := hc.len
    subst h6
    rw [List.drop_of_length_le (by omega)]
    exact lp_last (f29_L2_2 k a6 n6 c6 a _ c i l w _ j H0 prot H (by omega))
  | d + 1, j, hj => by
    obtain ⟨a, c, rfl⟩ := hc.len
    subst h6
    have hjl : j < ws.length := by omega
    obtain ⟨id, hid, g1, g2⟩ := own_atS T58 hc hjl
    have g3 := g2 1 1 (by omega)
    rw [cc_get k (sho k (n + 1)) nv hjl 1 rfl] at g3
    rw [List.drop_eq_getElem_cons hjl]
    simp only [fnd]
    have hb := ba_eq (tru k (sho k (n + 1)) ws[j]) (tru k (sho k (n + 1)) w)
    by_cases h : dif k ws[j] w (sho k (n + 1)) 0 = none
    · rw [if_pos h]
      rw [decide_eq_true (tru_inj.2 h)] at hb
      exact lp_last (f29_L2_1 k a6 n6 c6 a _ c i l w _ j H0 prot H id (j * 3) _ _ (by omega) g1 g3 (by rw [hb]; rfl))
    · rw [if_neg h]
      rw [decide_eq_false (fun e => h (tru_inj.1 e))] at hb
      exact lp_next (f29_L2_0 k a6 n6 c6 a _ c i l w _ j H0 prot H id (j * 3) _ _ (by omega) g1 g3 (by rw [hb]; rfl) (fit64 (by omega) (by omega))) (loop29f H0 H prot hle rfl hc d (j + 1) (by omega))
end Go.Proofs.Ytedfombojnfbiaa.Am24
namespace Go.Proofs.Ytedfombojnfbiaa.Am24
open Go Go.Proofs.Ytedfombojnfbiaa.Am

theorem loop29i {k n : Nat} (hk1 : 1 ≤ k) (hk : k ≤ 8) (hn : n ≤ 4) (H0 : AHeap) (prot : Nat) (o6 o7 i : Nat) (x6 : Value) : ∀ (d l : Nat) (ws : List ByteArray) (nx : List Nat) (x7 : Value) (nv : Nat → Value) (nid : Nat → Option Nat) (H : AHeap), l + d = k → i < ws.length → WsOK k ws → nx.length = i * k + l →
    Inv2 k n H0 H ws nx x6 x7 o6 o7 nv nid →
    match clsIn k (sho k (n + 1)) i d l ws nx with
    | some r => ∃ a6 c6 a7 c7 nv' nid' H', lpInf (lpOf cfg a29 1 prot H0) ([.int .i64 k, x6, x7, .int .i64 i, .int .i64 l], H) = some (.exit 2, [.int .i64 k, .tuple #[], .tuple #[], .slice a6 (sho k (n + 1)) c6, .slice a7 r.1.length c7, .int .i64 i], H') ∧
        x6 = .slice a6 (sho k (n + 1)) c6 ∧ Inv2 k n H0 H' r.1 r.2 x6 (.slice a7 r.1.length c7) o6 o7 nv' nid' ∧ WsOK k r.1 ∧ i < r.1.length ∧ r.2.length = i * k + k
    | none => ∃ z6 z7 H', lpInf (lpOf cfg a29 1 prot H0) ([.int .i64 k, x6, x7, .int .i64 i, .int .i64 l], H) = some (.ret, [.int .i64 k, .slice none 0 0, .bool false, z6, z7, .int .i64 i], H')
  | 0, l, ws, nx, x7, nv, nid, H, hl, hi, hw, hnx, hv => by
    obtain ⟨a6, c6, rfl⟩ := hv.s.len
    obtain ⟨a7, c7, rfl⟩ := hv.c.len
    have : l = k := by omega
    subst this
    simp only [clsIn]
    exact ⟨a6, c6, a7, c7, nv, nid, H, lp_last (f29_L1_3 l a6 _ c6 a7 _ c7 i l H0 prot H (by omega)), rfl, hv, hw, hi, hnx⟩
  | d + 1, l, ws, nx, x7, nv, nid, H, hl, hi, hw, hnx, hv => by
    obtain ⟨a6, c6, rfl⟩ := hv.s.len
    obtain ⟨a7, c7, rfl⟩ := hv.c.len
    have hlk : l < k := by omega
    have hlen := hw.le
    have hgd : ws.getD i ⟨#[]⟩ = ws[i] := by simp [List.getD_eq_getElem?_getD, List.getElem?_eq_getElem hi]
    have hwi : Wd k ws[i] := hw.wd _ (List.getElem_mem hi)
    have hsz := hw.sz i ws[i] (List.getElem?_eq_getElem hi)
    let v := ext1 ws[i] l
    have hvs : v.size = ws[i].size + 1 := ext1_size _ _
    have hstr : (strOf [97 + l]).size = 1 := by rw [strOf_size]; rfl
    let N := sho k (n + 1)
    obtain ⟨id7, hid7, g1, g2⟩ := own_atS T58 hv.c hi
    cases hid7
    have g3 := g2 0 1 (by omega)
    rw [cc_get k (sho k (n + 1)) nv hi 0 rfl] at g3
    let bo : AObj := .cells [.int .u8 (IntKind.u8.wrap (97 + (l : Int)))] 5 [Value.int .u8 (IntKind.u8.wrap (97 + (l : Int)))].length .row
    obtain ⟨Ha, hHa⟩ : ∃ Ha, Ha = H ++ [bo] := ⟨_, rfl⟩
    have sa : Stay none H Ha := by rw [hHa]; exact Stay.app none H [bo]
    have la : Ha.length = H.length + 1 := by rw [hHa]; simp
    have va := hv.stay sa
    have hH0 : H0.length ≤ Ha.length := va.st.1
    have h7 := c41 hk1 hk hn (w := v) (by omega) H0.length Ha va.s
    have h8 := loop29f (k := k) (n := n) H0 Ha prot (i := i) (l := l) (w := v) hlen (x6 := .slice a6 (sho k (n + 1)) c6) rfl va.c ws.length 0 (by omega)
    rw [List.drop_zero] at h8
    rw [hHa] at h7 h8
    have hfnd := fnd_findC k (sho k (n + 1)) v ws 0
    rw [Nat.zero_add] at hfnd
    have lt7 : o7 < Ha.length := own_lt va.c
    have lt6 : o6 < Ha.length := own_lt va.s
    -- the letter's entry in the class's own list, in a world G where the list lies
    have entry : ∀ (G : AHeap) (ws' : List ByteArray) (nv1 : Nat → Value) (nid1 : Nat → Option Nat) (x7' : Value) (e : Nat), i < ws'.length → ws'.length ≤ 3000 → Inv2 k n H0 G ws' nx (.slice a6 (sho k (n + 1)) c6) x7' o6 o7 nv1 nid1 →
        ∃ a8 n8 c8 a9 n9 c9 G1 G2 nv2 nid2, nv1 i = .slice a8 n8 c8 ∧ aindexAddr cfg.P 58 x7' (.int .i64 i) = some (.pointer (some ⟨o7, i * 3, some (cc k N nv1 ws' 0).length⟩)) ∧ getCells G o7 (cc k N nv1 ws' 0).length (i * 3 + 2) 1 = some [.slice a8 n8 c8] ∧
          aappend cfg.P H0.length true 54 54 (.slice a8 n8 c8) (.slice (some ⟨G.length, 0, some (1 * 1)⟩) 1 1) (G ++ [.cells [.int .i64 (e : Int)] 3 [Value.int .i64 (e : Int)].length .row]) = some (.slice a9 n9 c9, G1) ∧
          setCells G1 H0.length o7 (cc k N nv1 ws' 0).length (i * 3 + 2) [.slice a9 n9 c9] = some G2 ∧ Inv2 k n H0 G2 ws' (nx ++ [e]) (.slice a6 (sho k (n + 1)) c6) x7' o6 o7 nv2 nid2 := by
      intro G ws' nv1 nid1 x7' e hi' hle' hv'
      obtain ⟨id7, hid7, q1, q2⟩ := own_atS T58 hv'.c hi'
      cases hid7
      have q3 := q2 2 1 (by omega)
      rw [cc_get k (sho k (n + 1)) nv1 hi' 2 rfl] at q3
      have hx := hv'.x i hi'
      obtain ⟨a8, c8, hnv⟩ := hx.len
      rw [hnv] at q3
      have hx' := hx
      rw [hnv] at hx'
      have hnl := nn_len (k := k) (nx := nx) (i := i) (l := l) (by omega) hnx
      obtain ⟨a9, c9, o9, G1, r1, r2, r3, r4, r5, r6⟩ := own_app T54' hx' (ecs := [.int .i64 (e : Int)]) rfl rfl (prot := H0.length) (room := true) (fun id h => (hv'.bn i id hi' h).1) hv'.st.1 (by omega) (L := 1 * 1) rfl (el := [Value.int .i64 (e : Int)].length) rfl
      have lt7' : o7 < G.length := own_lt hv'.c
      have hne7 : o9 ≠ o7 ∧ nid1 i ≠ some o7 := by
        constructor
        · intro h
          cases hni : nid1 i with
          | none => have := r5 hni; omega
          | some id => have h1 := r6 id hni; have h2 := hv'.bn i id hi' hni; omega
        · intro h; exact (hv'.bn i o7 hi' h).2.2 rfl
      have hne6 : o9 ≠ o6 ∧ nid1 i ≠ some o6 := by
        have lt6' : o6 < G.length := own_lt hv'.s
        constructor
        · intro h
          cases hni : nid1 i with
          | none => have := r5 hni; omega
          | some id => have h1 := r6 id hni; have h2 := hv'.bn i id hi' hni; omega
        · intro h; exact (hv'.bn i o6 hi' h).2.1 rfl
      have c1 := hv'.c.stay r3 (fun id h1 h2 => by cases h1; exact hne7.2 h2)
      obtain ⟨id8, G2, hid8, s1, s2, s3, s4, s5⟩ := own_setS T58 c1 (i := i) (j := 2) hi' (vs := [.slice a9 ((nn k nx i).length + 1) c9]) (by simp) rfl (prot := H0.length) (fun id h => by cases h; exact hv'.b7)
      cases hid8
      rw [cc_put k (sho k (n + 1)) nv1 (.slice a9 ((nn k nx i).length + 1) c9) ws' i 0 hi'] at s3
      refine ⟨a8, _, c8, a9, _, c9, G1, G2, fun q => if q = i then .slice a9 ((nn k nx i).length + 1) c9 else nv1 q, fun q => if q = i then some o9 else nid1 q, hnv, q1, q3, r1, s2, ?_⟩
      have newx : Own G2 3 1 (.slice a9 ((nn k nx i).length + 1) c9) (some o9) ((nn k nx i).length + 1) (ic (nn k nx i) ++ [.int .i64 (e : Int)]) := r2.stay s4 (fun id h1 h2 => by cases h1; cases h2; exact hne7.1 rfl)
      refine ⟨(hv'.s.stay r3 (fun id h1 h2 => by cases h1; exact hne6.2 h2)).stay s4 (fun id h1 h2 => by cases h1; cases h2; exact hv'.d rfl), ?_, fun j hj => ?_, hv'.b6, hv'.b7, hv'.d, fun j id hj h => ?_, fun j j' id hj hj' h h' => ?_, (hv'.st.over r3 (fun id h => (hv'.bn i id hi' h).1)).over s4 (fun id h => by cases h; exact hv'.b7)⟩
      · rw [Nat.zero_add] at s3; exact s3
      · rw [nn_push hlk hnx j]
        by_cases hji : j = i
        · subst hji
          simp only [if_true]
          rw [ic_snoc]
          simp only [List.length_append, List.length_cons, List.length_nil]
          exact newx
        · simp only [if_neg hji]
          refine ((hv'.x j hj).stay r3 (fun id h1 h2 => hji (hv'.dn j i id hj hi' h1 h2))).stay s4 (fun id h1 h2 => ?_)
          cases h2
          exact (hv'.bn j _ hj h1).2.2 rfl
      · by_cases hji : j = i
        · simp only [hji, if_true] at h
          cases h
          exact ⟨r4, hne6.1, hne7.1⟩
        · simp only [if_neg hji] at h
          exact hv'.bn j id hj h
      · have old : ∀ q, q < ws'.length → nid1 q = some o9 → q = i := fun q hq hh => by
          cases hni : nid1 i with
          | none =>
            have h1 := r5 hni
            have h2 := hv'.x q hq
            rw [hh] at h2
            have := own_lt h2
            omega
          | some id2 =>
            have h1 := r6 id2 hni
            subst h1
            exact hv'.dn q i _ hq hi' hh hni
        by_cases hji : j = i
        · by_cases hji' : j' = i
          · rw [hji, hji']
          · simp only [hji, if_true] at h
            simp only [if_neg hji'] at h'
            cases h
            rw [hji, old j' hj' h']
        · by_cases hji' : j' = i
          · simp only [hji', if_true] at h'
            simp only [if_neg hji] at h
            cases h'
            rw [hji', old j hj h]
          · simp only [if_neg hji] at h
            simp only [if_neg hji'] at h'
            exact hv'.dn j j' id hj hj' h h'
    simp only [clsIn]
    rw [hgd, show ext1 ws[i] l = v from rfl]
    cases hf : findC k (sho k (n + 1)) ws v with
    | some j =>
      simp only
      rw [hf, Option.getD_some] at hfnd
      have hj : j < ws.length := by
        unfold findC at hf
        exact (List.findIdx?_eq_some_iff_getElem.1 hf).1
      obtain ⟨a8, n8, c8, a9, n9, c9, G1, G2, nv2, nid2, _, q1, q2, q3, q4, q5⟩ := entry Ha ws nv nid _ j hi hlen va
      rw [hfnd] at h8
      have step := f29_L1_2 k a6 (sho k (n + 1)) c6 a7 ws.length c7 i l H0 prot H o7 (i * 3) _ ws[i] (strOf [97 + l]) _ k a6 (sho k (n + 1)) c6 a7 ws.length c7 i l v _ (j : Nat) (H ++ [bo]) o7 (i * 3) _ a8 n8 c8 a9 n9 c9 G1 o7 (i * 3) _ G2
        (by omega) g1 g3 (fit64 (by omega) (by omega)) (conv1 H (by omega)) (by omega) h7 h8 (by simpa using (fun e : (j : Int) = ws.length => by omega)) q1 (by rw [← hHa]; exact q2) (by rw [← hHa]; exact q3) q1 rfl q4 (fit64 (by omega) (by omega))
      have ih := loop29i hk1 hk hn H0 prot o6 o7 i _ d (l + 1) ws (nx ++ [j]) _ nv2 nid2 G2 (by omega) hi hw (by simp; omega) q5
      revert ih
      cases clsIn k (sho k (n + 1)) i d (l + 1) ws (nx ++ [j]) with
      | some r =>
        rintro ⟨p1, p2, p3, p4, p5, p6, p7, h1, h2⟩
        exact ⟨p1, p2, p3, p4, p5, p6, p7, lp_next step h1, h2⟩
      | none =>
        rintro ⟨z6, z7, H', h1⟩
        exact ⟨z6, z7, H', lp_next step h1⟩
    | none =>
      simp only
      rw [hf, Option.getD_none] at hfnd
      rw [hfnd] at h8
      by_cases h3 : ws.length = 3000
      · rw [if_pos h3]
        exact ⟨_, _, H ++ [bo], lp_last (f29_L1_0 k a6 (sho k (n + 1)) c6 a7 ws.length c7 i l H0 prot H o7 (i * 3) _ ws[i] (strOf [97 + l]) _ k a6 (sho k (n + 1)) c6 a7 ws.length c7 i l v _ (ws.length : Nat) (H ++ [bo])
          (by omega) g1 g3 (fit64 (by omega) (by omega)) (conv1 H (by omega)) (by omega) h7 h8 (by simp) (by rw [h3]; rfl))⟩
      · rw [if_neg h3]
        obtain ⟨a7', c7', o7', G0, t1, t2, t3, t4, t5, t6⟩ := own_app T58 va.c (ecs := [.string v, .string (tru k (sho k (n + 1)) v), .slice none 0 0]) rfl rfl (prot := H0.length) (room := true) (fun id h => by cases h; exact hv.b7) hH0 (by omega) (L := 1 * 3) rfl (el := [Value.string v, .string (tru k (sho k (n + 1)) v), .slice none 0 0].length) rfl
        have e7 := t6 o7 rfl
        subst e7
        have el : (ws ++ [v]).length = ws.length + 1 := by simp
        have hpush : WsOK k (ws ++ [v]) := by
          have := hw.push hk hi hlk h3
          rw [hgd] at this
          exact this
        have vg : Inv2 k n H0 G0 (ws ++ [v]) nx (.slice a6 (sho k (n + 1)) c6) (.slice a7' (ws.length + 1) c7') o6 o7' (fun q => if q = ws.length then .slice none 0 0 else nv q) (fun q => if q = ws.length then none else nid q) := by
          refine ⟨va.s.stay t3 (fun id h1 h2 => by cases h1; cases h2; exact hv.d rfl), ?_, fun j hj => ?_, hv.b6, hv.b7, hv.d, fun j id hj h => ?_, fun j j' id hj hj' h h' => ?_, va.st.over t3 (fun id h => by cases h; exact hv.b7)⟩
          · rw [el, cc_snoc, Nat.zero_add]
            simp only [if_true]
            rw [cc_congr k (sho k (n + 1)) (nv' := nv) ws 0 (fun q _ hq => if_neg (by omega))]
            exact t2
          · rw [el] at hj
            by_cases hjl : j = ws.length
            · subst hjl
              simp only [if_true]
              rw [nn_none (by omega) hnx hi]
              exact own_nil
            · simp only [if_neg hjl]
              exact (va.x j (by omega)).stay t3 (fun id h1 h2 => by cases h2; exact (va.bn j _ (by omega) h1).2.2 rfl)
          · rw [el] at hj
            by_cases hjl : j = ws.length
            · simp only [hjl, if_true] at h; cases h
            · simp only [if_neg hjl] at h
              exact va.bn j id (by omega) h
          · rw [el] at hj hj'
            by_cases hjl : j = ws.length
            · simp only [hjl, if_true] at h; cases h
            · by_cases hjl' : j' = ws.length
              · simp only [hjl', if_true] at h'; cases h'
              · simp only [if_neg hjl] at h
                simp only [if_neg hjl'] at h'
                exact va.dn j j' id (by omega) (by omega) h h'
        obtain ⟨a8, n8, c8, a9, n9, c9, G1, G2, nv2, nid2, _, q1, q2, q3, q4, q5⟩ := entry G0 (ws ++ [v]) _ _ _ ws.length (by rw [el]; omega) hpush.le vg
        have step := f29_L1_1 k a6 (sho k (n + 1)) c6 a7 ws.length c7 i l H0 prot H o7' (i * 3) _ ws[i] (strOf [97 + l]) _ k a6 (sho k (n + 1)) c6 a7 ws.length c7 i l v _ (ws.length : Nat) (H ++ [bo]) a7' _ c7' G0 o7' (i * 3) _ a8 n8 c8 a9 n9 c9 G1 o7' (i * 3) _ G2
          (by omega) g1 g3 (fit64 (by omega) (by omega)) (conv1 H (by omega)) (by omega) h7 h8 (by simp) (by simpa using (fun e : (ws.length : Int) = 3000 => h3 (by omega))) (by rw [← hHa]; exact t1) q1 q2 q3 q1 rfl q4 (fit64 (by omega) (by omega))
        have ih := loop29i hk1 hk hn H0 prot o6 o7' i _ d (l + 1) (ws ++ [v]) (nx ++ [ws.length]) _ nv2 nid2 G2 (by omega) (by rw [el]; omega) hpush (by simp; omega) q5
        revert ih
        cases clsIn k (sho k (n + 1)) i d (l + 1) (ws ++ [v]) (nx ++ [ws.length]) with
        | some r =>
          rintro ⟨p1, p2, p3, p4, p5, p6, p7, h1, h2⟩
          exact ⟨p1, p2, p3, p4, p5, p6, p7, lp_next step h1, h2⟩
        | none =>
          rintro ⟨z6, z7, H', h1⟩
          exact ⟨z6, z7, H', lp_next step h1⟩
end Go.Proofs.Ytedfombojnfbiaa.Am24
namespace Go.Proofs.Ytedfombojnfbiaa.Am24
open Go Go.Proofs.Ytedfombojnfbiaa.Am

theorem loop29o {k n : Nat} (hk1 : 1 ≤ k) (hk : k ≤ 8) (hn : n ≤ 4) (H0 : AHeap) (prot : Nat) (o6 o7 : Nat) (x6 : Value) : ∀ (f i : Nat) (ws : List ByteArray) (nx : List Nat) (x7 : Value) (nv : Nat → Value) (nid : Nat → Option Nat) (H : AHeap), f + i = 3001 → i ≤ ws.length → WsOK k ws → nx.length = i * k →
    Inv2 k n H0 H ws nx x6 x7 o6 o7 nv nid →
    match clsOut k (sho k (n + 1)) f i ws nx with
    | some r => ∃ a7 c7 nv' nid' H', lpInf (lpOf cfg a29 0 prot H0) ([.int .i64 k, x6, x7, .int .i64 i], H) = some (.exit 0, [.tuple #[], .tuple #[], .slice a7 r.1.length c7], H') ∧
        Inv2 k n H0 H' r.1 r.2 x6 (.slice a7 r.1.length c7) o6 o7 nv' nid' ∧ WsOK k r.1 ∧ r.2.length = r.1.length * k
    | none => ∃ z7 H', lpInf (lpOf cfg a29 0 prot H0) ([.int .i64 k, x6, x7, .int .i64 i], H) = some (.ret, [.slice none 0 0, .bool false, z7], H')
  | 0, i, ws, nx, x7, nv, nid, H, hf, hi, hw, hnx, hv => by have := hw.le; omega
  | f + 1, i, ws, nx, x7, nv, nid, H, hf, hi, hw, hnx, hv => by
    obtain ⟨a6, c6, h6⟩ := hv.s.len
    obtain ⟨a7, c7, rfl⟩ := hv.c.len
    have hle := hw.le
    simp only [clsOut]
    by_cases h : i < ws.length
    · rw [if_pos h]
      have ih := loop29i hk1 hk hn H0 prot o6 o7 i x6 k 0 ws nx _ nv nid H (by omega) h hw (by omega) hv
      revert ih
      cases hc : clsIn k (sho k (n + 1)) i k 0 ws nx with
      | some r =>
        rintro ⟨b6, d6, b7, d7, nv', nid', H', h1, h2, h3, h4, h5, h7⟩
        rw [Option.bind_some]
        subst h6
        injection h2 with e1 e2 e3
        subst e1; subst e3
        have step := f29_L0_0 k a6 _ c6 a7 ws.length c7 i H0 prot H k (.tuple #[]) (.tuple #[]) a6 _ c6 b7 r.1.length d7 i H' (by omega) h1 (fit64 (by omega) (by omega))
        have ih2 := loop29o hk1 hk hn H0 prot o6 o7 _ f (i + 1) r.1 r.2 _ nv' nid' H' (by omega) (by omega) h4 (by rw [h7, Nat.add_mul, Nat.one_mul]) h3
        revert ih2
        cases clsOut k (sho k (n + 1)) f (i + 1) r.1 r.2 with
        | some r' =>
          rintro ⟨p1, p2, p3, p4, p5, q1, q2⟩
          exact ⟨p1, p2, p3, p4, p5, lp_next step q1, q2⟩
        | none =>
          rintro ⟨z7, H2, q1⟩
          exact ⟨z7, H2, lp_next step q1⟩
      | none =>
        rintro ⟨z6, z7, H', h1⟩
        simp only [Option.bind_none]
        subst h6
        exact ⟨z7, H', lp_last (f29_L0_1 k a6 _ c6 a7 ws.length c7 i H0 prot H (.int .i64 k) none 0 0 false z6 z7 (.int .i64 i) H' (by omega) h1)⟩
    · rw [if_neg h]
      have : i = ws.length := by omega
      subst this
      subst h6
      exact ⟨a7, c7, nv, nid, H, lp_last (f29_L0_2 k a6 _ c6 a7 _ c7 (ws.length : Nat) H0 prot H (by omega)), hv, hw, hnx⟩

theorem gc_nested {H H' : AHeap} {e s n id : Nat} {x : Value} {cs : List Value} (h : Own H' e s x (some id) n cs) (hp : cs.all plain0 = false) (v : Value) : gc H [x, v] H' = (.tuple #[x, v], H') := by
  obtain ⟨hl, hn, rfl, wr, hwr, hH⟩ := h
  unfold gc
  have : keepAll H.length H' [.slice (some ⟨id, 0, some cs.length⟩) n n, v] [] = none := by
    simp only [keepAll, keep1]
    split
    · rfl
    · rw [hH]
      simp only
      rw [if_neg (by rw [hp]; simp)]
      rfl
  rw [this]
  split <;> rfl

theorem c29 {k n : Nat} (hk1 : 1 ≤ k) (hk : k ≤ 8) (hn : n ≤ 4) (prot : Nat) (H : AHeap) :
    match clsV k n with
    | some r => ∃ (a7 : Option Addr) (c7 o7 : Nat) (nv : Nat → Value) (nid : Nat → Option Nat) (H' : AHeap), callInf cfg 29 [.int .i64 k, .int .i64 n] prot H = some (.tuple #[.slice a7 r.1.length c7, .bool true], H') ∧
        Own H' 62 3 (.slice a7 r.1.length c7) (some o7) r.1.length (cc k (sho k (n + 1)) nv r.1 0) ∧ (∀ j, j < r.1.length → Own H' 3 1 (nv j) (nid j) (nn k r.2 j).length (ic (nn k r.2 j))) ∧ H.length ≤ o7 ∧ Stay none H H' ∧ WsOK k r.1 ∧ r.2.length = r.1.length * k
    | none => callInf cfg 29 [.int .i64 k, .int .i64 n] prot H = some (.tuple #[.slice none 0 0, .bool false], H) := by
  obtain ⟨x, H1, r1, r2, r3⟩ := c35 hk1 hk hn H.length H
  obtain ⟨a6, c6, rfl⟩ := r2.len
  have h41 := c41 hk1 hk hn (w := ⟨#[]⟩) (by decide) H.length H1 r2
  let H2 := H1 ++ [AObj.cells [.string ⟨#[]⟩, .string (tru k (sho k (n + 1)) ⟨#[]⟩), .slice none 0 0] 62 [Value.string ⟨#[]⟩, .string (tru k (sho k (n + 1)) ⟨#[]⟩), .slice none 0 0].length .row]
  have hlt := own_lt r2
  have inv : Inv2 k n H H2 [⟨#[]⟩] [] (.slice a6 (sho k (n + 1)) c6) (.slice (some ⟨H1.length, 0, some (1 * 3)⟩) 1 1) H.length H1.length (fun _ => .slice none 0 0) (fun _ => none) := by
    refine ⟨r2.stay (Stay.app none H1 _) (fun _ _ h => by cases h), own_new (n := 1) (cs := [.string ⟨#[]⟩, .string (tru k (sho k (n + 1)) ⟨#[]⟩), .slice none 0 0]) rfl (by omega) rfl rfl, fun j _ => ?_, by omega, by omega, by omega, (fun j id _ h => by cases h), (fun j j' id _ _ h => by cases h), r3.trans (Stay.app none H1 _)⟩
    have : nn k [] j = [] := by simp [nn]
    rw [this]
    exact own_nil
  have hl := loop29o hk1 hk hn H prot H.length H1.length _ 3001 0 [⟨#[]⟩] [] _ _ _ H2 rfl (by simp) (WsOK.first k) (by simp) inv
  unfold clsV
  revert hl
  cases clsOut k (sho k (n + 1)) 3001 0 [⟨#[]⟩] [] with
  | some r =>
    rintro ⟨a7, c7, nv, nid, H3, h1, h2, h3, h4⟩
    refine ⟨a7, c7, H1.length, nv, nid, H3, ?_, h2.c, h2.x, h2.b7, h2.st, h3, h4⟩
    refine f29_F_0 k n H prot a6 _ c6 H1 _ (.tuple #[]) (.tuple #[]) a7 _ c7 H3 _ _ r1 h41 h1 ?_
    rw [pfin_eq]
    refine gc_nested h2.c ?_ _
    have hx := h2.x 0 h3.pos
    have hl0 : (nn k r.2 0).length = k := by
      unfold nn
      have := Nat.mul_le_mul h3.pos (Nat.le_refl k)
      simp; omega
    rw [hl0] at hx
    have hnp : plain0 (nv 0) = false := by
      cases ho : nid 0 with
      | none => rw [ho] at hx; have := hx.2.1; omega
      | some id =>
        rw [ho] at hx
        rw [hx.2.2.1]
        cases k with
        | zero => omega
        | succ k => rfl
    cases hr : r.1 with
    | nil => have := h3.pos; rw [hr] at this; simp at this
    | cons w l =>
      simp only [cc, List.all_cons, hnp]
      simp
  | none =>
    rintro ⟨z7, H3, h1⟩
    refine f29_F_1 k n H prot a6 _ c6 H1 _ none 0 0 false z7 H3 _ _ r1 h41 h1 ?_
    rw [pfin_eq]
    exact gc_plain (H1 := H3) (vs := [.slice none 0 0, .bool false]) rfl
end Go.Proofs.Ytedfombojnfbiaa.Am24
set_option linter.unusedVariables false
open Go Go.Proofs.Ytedfombojnfbiaa.Am
namespace Go.Proofs.Ytedfombojnfbiaa.Am24
theorem f8_F_0 (x0 : Int) (x1 : Int) (H : AHeap) (prot : Nat) (x13 : Int) (h1 : callInf cfg 26 [Value.int IntKind.i64 x0, Value.int IntKind.i64 x1, Value.slice none 0 0] (List.length H) H = some (Value.int IntKind.i64 x13, H)) (h2 : (x13 != 0) = true) : callInf cfg 8 [.int .i64 x0, .int .i64 x1] prot H = some (Value.tuple { toList := [Value.slice none 0 0, Value.int IntKind.i64 x13] }, H) :=
  fn_of a8 [.v (.int .i64 x13), .e, .b true] (fun e => (callInf cfg 26 [Value.int IntKind.i64 x0, Value.int IntKind.i64 x1, Value.slice none 0 0] (List.length H) H = some (Value.int IntKind.i64 x13, H)) ∧ ((x13 != 0) = true) ∧ e) (by kernel_rfl) ⟨h1, h2, rfl⟩ rfl
theorem f8_F_1 (x0 : Int) (x1 : Int) (H : AHeap) (prot : Nat) (x13 : Int) (x20aa : Option Addr) (x20an : Nat) (x20ac : Nat) (x20bm : Option Nat) (x20ca : Option Addr) (x20cn : Nat) (x20cc : Nat) (x20d : Int) (H1 : AHeap) (rv : Value) (rH : AHeap) (h1 : callInf cfg 26 [Value.int IntKind.i64 x0, Value.int IntKind.i64 x1, Value.slice none 0 0] (List.length H) H = some (Value.int IntKind.i64 x13, H)) (h2 : (x13 != 0) = false) (h3 : callInf cfg 27 [Value.int IntKind.i64 x0, Value.int IntKind.i64 x1] (List.length H) H = some (Value.tuple { toList := [Value.slice x20aa x20an x20ac, Value.map x20bm, Value.slice x20ca x20cn x20cc, Value.int IntKind.i64 x20d] }, H1)) (h4 : pfin a8 H [Value.slice x20aa x20an x20ac, Value.int IntKind.i64 x20d] H1 = (rv, rH)) : callInf cfg 8 [.int .i64 x0, .int .i64 x1] prot H = some (rv, rH) :=
  fn_of' a8 [.v (.int .i64 x13), .e, .b false, .r (.tuple #[.slice x20aa x20an x20ac, .map x20bm, .slice x20ca x20cn x20cc, .int .i64 x20d]) H1] ((callInf cfg 26 [Value.int IntKind.i64 x0, Value.int IntKind.i64 x1, Value.slice none 0 0] (List.length H) H = some (Value.int IntKind.i64 x13, H)) ∧ ((x13 != 0) = false) ∧ (callInf cfg 27 [Value.int IntKind.i64 x0, Value.int IntKind.i64 x1] (List.length H) H = some (Value.tuple { toList := [Value.slice x20aa x20an x20ac, Value.map x20bm, Value.slice x20ca x20cn x20cc, Value.int IntKind.i64 x20d] }, H1)) ∧ (pfin a8 H [Value.slice x20aa x20an x20ac, Value.int IntKind.i64 x20d] H1 = (rv, rH))) (by kernel_rfl) ⟨h1, h2, h3, h4⟩ rfl
end Go.Proofs.Ytedfombojnfbiaa.Am24
set_option linter.unusedVariables false
open Go Go.Proofs.Ytedfombojnfbiaa.Am
namespace Go.Proofs.Ytedfombojnfbiaa.Am24
theorem f9_F_0 (x0 : Int) (x1 : Int) (H : AHeap) (prot : Nat) (x13 : Int) (h1 : callInf cfg 28 [Value.int IntKind.i64 x0, Value.int IntKind.i64 x1, Value.string { data := { toList := [] } }, Value.string { data := { toList := [] } }] (List.length H) H = some (Value.int IntKind.i64 x13, H)) (h2 : (x13 != 0) = true) : callInf cfg 9 [.int .i64 x0, .int .i64 x1] prot H = some (Value.tuple { toList := [Value.slice none 0 0, Value.int IntKind.i64 x13] }, H) :=
  fn_of a9 [.v (.int .i64 x13), .e, .b true] (fun e => (callInf cfg 28 [Value.int IntKind.i64 x0, Value.int IntKind.i64 x1, Value.string { data := { toList := [] } }, Value.string { data := { toList := [] } }] (List.length H) H = some (Value.int IntKind.i64 x13, H)) ∧ ((x13 != 0) = true) ∧ e) (by kernel_rfl) ⟨h1, h2, rfl⟩ rfl
theorem f9_F_1 (x0 : Int) (x1 : Int) (H : AHeap) (prot : Nat) (x13 : Int) (x20aa : Option Addr) (x20an : Nat) (x20ac : Nat) (x20b : Bool) (H1 : AHeap) (z9a : Option Addr) (z9n : Nat) (z9c : Nat) (H2 : AHeap) (rv : Value) (rH : AHeap) (h1 : callInf cfg 28 [Value.int IntKind.i64 x0, Value.int IntKind.i64 x1, Value.string { data := { toList := [] } }, Value.string { data := { toList := [] } }] (List.length H) H = some (Value.int IntKind.i64 x13, H)) (h2 : (x13 != 0) = false) (h3 : callInf cfg 29 [Value.int IntKind.i64 x0, Value.int IntKind.i64 x1] (List.length H) H = some (Value.tuple { toList := [Value.slice x20aa x20an x20ac, Value.bool x20b] }, H1)) (h4 : (!x20b) = false) (h5 : lpInf (lpOf cfg a9 0 prot H) ([Value.slice x20aa x20an x20ac, Value.slice none 0 0, Value.int IntKind.i64 0], H1) = some (Ex.exit 0, [Value.slice z9a z9n z9c], H2)) (h6 : pfin a9 H [Value.slice z9a z9n z9c, Value.int IntKind.i64 0] H2 = (rv, rH)) : callInf cfg 9 [.int .i64 x0, .int .i64 x1] prot H = some (rv, rH) :=
  fn_of' a9 [.v (.int .i64 x13), .e, .b false, .r (.tuple #[.slice x20aa x20an x20ac, .bool x20b]) H1, .e, .b false, .lo (.exit 0, [.slice z9a z9n z9c], H2)] ((callInf cfg 28 [Value.int IntKind.i64 x0, Value.int IntKind.i64 x1, Value.string { data := { toList := [] } }, Value.string { data := { toList := [] } }] (List.length H) H = some (Value.int IntKind.i64 x13, H)) ∧ ((x13 != 0) = false) ∧ (callInf cfg 29 [Value.int IntKind.i64 x0, Value.int IntKind.i64 x1] (List.length H) H = some (Value.tuple { toList := [Value.slice x20aa x20an x20ac, Value.bool x20b] }, H1)) ∧ ((!x20b) = false) ∧ (lpInf (lpOf cfg a9 0 prot H) ([Value.slice x20aa x20an x20ac, Value.slice none 0 0, Value.int IntKind.i64 0], H1) = some (Ex.exit 0, [Value.slice z9a z9n z9c], H2)) ∧ (pfin a9 H [Value.slice z9a z9n z9c, Value.int IntKind.i64 0] H2 = (rv, rH))) (by kernel_rfl) ⟨h1, h2, h3, h4, h5, h6⟩ rfl
theorem f9_F_2 (x0 : Int) (x1 : Int) (H : AHeap) (prot : Nat) (x13 : Int) (x20aa : Option Addr) (x20an : Nat) (x20ac : Nat) (x20b : Bool) (H1 : AHeap) (h1 : callInf cfg 28 [Value.int IntKind.i64 x0, Value.int IntKind.i64 x1, Value.string { data := { toList := [] } }, Value.string { data := { toList := [] } }] (List.length H) H = some (Value.int IntKind.i64 x13, H)) (h2 : (x13 != 0) = false) (h3 : callInf cfg 29 [Value.int IntKind.i64 x0, Value.int IntKind.i64 x1] (List.length H) H = some (Value.tuple { toList := [Value.slice x20aa x20an x20ac, Value.bool x20b] }, H1)) (h4 : (!x20b) = true) : callInf cfg 9 [.int .i64 x0, .int .i64 x1] prot H = some (Value.tuple { toList := [Value.slice none 0 0, Value.int IntKind.i64 6] }, H) :=
  fn_of a9 [.v (.int .i64 x13), .e, .b false, .r (.tuple #[.slice x20aa x20an x20ac, .bool x20b]) H1, .e, .b true] (fun e => (callInf cfg 28 [Value.int IntKind.i64 x0, Value.int IntKind.i64 x1, Value.string { data := { toList := [] } }, Value.string { data := { toList := [] } }] (List.length H) H = some (Value.int IntKind.i64 x13, H)) ∧ ((x13 != 0) = false) ∧ (callInf cfg 29 [Value.int IntKind.i64 x0, Value.int IntKind.i64 x1] (List.length H) H = some (Value.tuple { toList := [Value.slice x20aa x20an x20ac, Value.bool x20b] }, H1)) ∧ ((!x20b) = true) ∧ e) (by kernel_rfl) ⟨h1, h2, h3, h4, rfl⟩ rfl
theorem f9_L0_0 (x7a : Option Addr) (x7n : Nat) (x7c : Nat) (x9a : Option Addr) (x9n : Nat) (x9c : Nat) (x10 : Int) (H0 : AHeap) (prot : Nat) (H : AHeap) (x34p : Nat) (x34o : Nat) (x34l : Nat) (x36 : ByteArray) (x38a : Option Addr) (x38n : Nat) (x38c : Nat) (H2 : AHeap) (h1 : x10 < (↑x7n : Int)) (h2 : aindexAddr cfg.P 58 (Value.slice x7a x7n x7c) (Value.int IntKind.i64 x10) = some (Value.pointer (some { block := x34p, off := x34o, spot := some x34l }))) (h3 : getCells H x34p x34l (x34o + 0) 1 = some [Value.string x36]) (h4 : aappend cfg.P (List.length H0) true 22 22 (Value.slice x9a x9n x9c) (Value.slice (some { block := List.length H, off := 0, spot := some (1 * 1) }) 1 1) (H ++ [AObj.cells [Value.string x36] 9 [Value.string x36].length OMode.row]) = some (Value.slice x38a x38n x38c, H2)) (h5 : Fit IntKind.i64 (x10 + 1)) : lpOf cfg a9 0 prot H0 ([.slice x7a x7n x7c, .slice x9a x9n x9c, .int .i64 x10], H) = some (Sum.inl ([Value.slice x7a x7n x7c, Value.slice x38a x38n x38c, Value.int IntKind.i64 (x10 + 1)], H2)) :=
  lp_of [.e, .e, .b true, .v (.pointer (some ⟨x34p, x34o, some x34l⟩)), .v (.string x36), .e, .r (.slice x38a x38n x38c) H2, .e] (fun e => (decide (x10 < (↑x7n : Int)) = true) ∧ (aindexAddr cfg.P 58 (Value.slice x7a x7n x7c) (Value.int IntKind.i64 x10) = some (Value.pointer (some { block := x34p, off := x34o, spot := some x34l }))) ∧ (getCells H x34p x34l (x34o + 0) 1 = some [Value.string x36]) ∧ (aappend cfg.P (List.length H0) true 22 22 (Value.slice x9a x9n x9c) (Value.slice (some { block := List.length H, off := 0, spot := some (1 * 1) }) 1 1) (H ++ [AObj.cells [Value.string x36] 9 [Value.string x36].length OMode.row]) = some (Value.slice x38a x38n x38c, H2)) ∧ (Fit IntKind.i64 (x10 + 1)) ∧ e) (by kernel_rfl) ⟨decide_eq_true h1, h2, h3, h4, h5, rfl⟩
theorem f9_L0_1 (x7a : Option Addr) (x7n : Nat) (x7c : Nat) (x9a : Option Addr) (x9n : Nat) (x9c : Nat) (x10 : Int) (H0 : AHeap) (prot : Nat) (H : AHeap) (h1 : ¬(x10 < (↑x7n : Int))) : lpOf cfg a9 0 prot H0 ([.slice x7a x7n x7c, .slice x9a x9n x9c, .int .i64 x10], H) = some (Sum.inr (Ex.exit 0, [Value.slice x9a x9n x9c], H)) :=
  lp_of [.e, .e, .b false] (fun e => (decide (x10 < (↑x7n : Int)) = false) ∧ e) (by kernel_rfl) ⟨decide_eq_false h1, rfl⟩
end Go.Proofs.Ytedfombojnfbiaa.Am24
set_option linter.unusedVariables false
open Go Go.Proofs.Ytedfombojnfbiaa.Am
namespace Go.Proofs.Ytedfombojnfbiaa.Am24
theorem f10_F_0 (x0 : Int) (x1 : Int) (x2 : ByteArray) (H : AHeap) (prot : Nat) (x17 : Int) (h1 : callInf cfg 26 [Value.int IntKind.i64 x0, Value.int IntKind.i64 x1, Value.slice (some { block := List.length H, off := 0, spot := some (1 * 1) }) 1 1] (List.length H) (H ++ [AObj.cells [Value.string x2] 9 [Value.string x2].length OMode.row]) = some (Value.int IntKind.i64 x17, H ++ [AObj.cells [Value.string x2] 9 [Value.string x2].length OMode.row])) (h2 : (x17 != 0) = true) : callInf cfg 10 [.int .i64 x0, .int .i64 x1, .string x2] prot H = some (Value.tuple { toList := [Value.string { data := { toList := [] } }, Value.int IntKind.i64 x17] }, H) :=
  fn_of a10 [.e, .v (.int .i64 x17), .e, .b true] (fun e => (callInf cfg 26 [Value.int IntKind.i64 x0, Value.int IntKind.i64 x1, Value.slice (some { block := List.length H, off := 0, spot := some (1 * 1) }) 1 1] (List.length H) (H ++ [AObj.cells [Value.string x2] 9 [Value.string x2].length OMode.row]) = some (Value.int IntKind.i64 x17, H ++ [AObj.cells [Value.string x2] 9 [Value.string x2].length OMode.row])) ∧ ((x17 != 0) = true) ∧ e) (by kernel_rfl) ⟨h1, h2, rfl⟩ rfl
theorem f10_F_1 (x0 : Int) (x1 : Int) (x2 : ByteArray) (H : AHeap) (prot : Nat) (x17 : Int) (x24aa : Option Addr) (x24an : Nat) (x24ac : Nat) (x24bm : Option Nat) (x24ca : Option Addr) (x24cn : Nat) (x24cc : Nat) (x24d : Int) (H1 : AHeap) (h1 : callInf cfg 26 [Value.int IntKind.i64 x0, Value.int IntKind.i64 x1, Value.slice (some { block := List.length H, off := 0, spot := some (1 * 1) }) 1 1] (List.length H) (H ++ [AObj.cells [Value.string x2] 9 [Value.string x2].length OMode.row]) = some (Value.int IntKind.i64 x17, H ++ [AObj.cells [Value.string x2] 9 [Value.string x2].length OMode.row])) (h2 : (x17 != 0) = false) (h3 : callInf cfg 27 [Value.int IntKind.i64 x0, Value.int IntKind.i64 x1] (List.length H) (H ++ [AObj.cells [Value.string x2] 9 [Value.string x2].length OMode.row]) = some (Value.tuple { toList := [Value.slice x24aa x24an x24ac, Value.map x24bm, Value.slice x24ca x24cn x24cc, Value.int IntKind.i64 x24d] }, H1)) (h4 : (x24d != 0) = true) : callInf cfg 10 [.int .i64 x0, .int .i64 x1, .string x2] prot H = some (Value.tuple { toList := [Value.string { data := { toList := [] } }, Value.int IntKind.i64 x24d] }, H) :=
  fn_of a10 [.e, .v (.int .i64 x17), .e, .b false, .r (.tuple #[.slice x24aa x24an x24ac, .map x24bm, .slice x24ca x24cn x24cc, .int .i64 x24d]) H1, .e, .b true] (fun e => (callInf cfg 26 [Value.int IntKind.i64 x0, Value.int IntKind.i64 x1, Value.slice (some { block := List.length H, off := 0, spot := some (1 * 1) }) 1 1] (List.length H) (H ++ [AObj.cells [Value.string x2] 9 [Value.string x2].length OMode.row]) = some (Value.int IntKind.i64 x17, H ++ [AObj.cells [Value.string x2] 9 [Value.string x2].length OMode.row])) ∧ ((x17 != 0) = false) ∧ (callInf cfg 27 [Value.int IntKind.i64 x0, Value.int IntKind.i64 x1] (List.length H) (H ++ [AObj.cells [Value.string x2] 9 [Value.string x2].length OMode.row]) = some (Value.tuple { toList := [Value.slice x24aa x24an x24ac, Value.map x24bm, Value.slice x24ca x24cn x24cc, Value.int IntKind.i64 x24d] }, H1)) ∧ ((x24d != 0) = true) ∧ e) (by kernel_rfl) ⟨h1, h2, h3, h4, rfl⟩ rfl
theorem f10_F_2 (x0 : Int) (x1 : Int) (x2 : ByteArray) (H : AHeap) (prot : Nat) (x17 : Int) (x24aa : Option Addr) (x24an : Nat) (x24ac : Nat) (x24bm : Option Nat) (x24ca : Option Addr) (x24cn : Nat) (x24cc : Nat) (x24d : Int) (H1 : AHeap) (x37 : Array Value) (x38 : Int) (x39p : Nat) (x39o : Nat) (x39l : Nat) (x40 : ByteArray) (h1 : callInf cfg 26 [Value.int IntKind.i64 x0, Value.int IntKind.i64 x1, Value.slice (some { block := List.length H, off := 0, spot := some (1 * 1) }) 1 1] (List.length H) (H ++ [AObj.cells [Value.string x2] 9 [Value.string x2].length OMode.row]) = some (Value.int IntKind.i64 x17, H ++ [AObj.cells [Value.string x2] 9 [Value.string x2].length OMode.row])) (h2 : (x17 != 0) = false) (h3 : callInf cfg 27 [Value.int IntKind.i64 x0, Value.int IntKind.i64 x1] (List.length H) (H ++ [AObj.cells [Value.string x2] 9 [Value.string x2].length OMode.row]) = some (Value.tuple { toList := [Value.slice x24aa x24an x24ac, Value.map x24bm, Value.slice x24ca x24cn x24cc, Value.int IntKind.i64 x24d] }, H1)) (h4 : (x24d != 0) = false) (h5 : callInf cfg 30 [Value.int IntKind.i64 x0, Value.int IntKind.i64 x1, Value.string x2] (List.length H) H1 = some (Value.agg x37, H1)) (h6 : alookup cfg.P 53 (Value.map x24bm) (Value.agg x37) false H1 = some (Value.int IntKind.i64 x38)) (h7 : aindexAddr cfg.P 22 (Value.slice x24aa x24an x24ac) (Value.int IntKind.i64 x38) = some (Value.pointer (some { block := x39p, off := x39o, spot := some x39l }))) (h8 : getCells H1 x39p x39l x39o 1 = some [Value.string x40]) : callInf cfg 10 [.int .i64 x0, .int .i64 x1, .string x2] prot H = some (Value.tuple { toList := [Value.string x40, Value.int IntKind.i64 0] }, H) :=
  fn_of a10 [.e, .v (.int .i64 x17), .e, .b false, .r (.tuple #[.slice x24aa x24an x24ac, .map x24bm, .slice x24ca x24cn x24cc, .int .i64 x24d]) H1, .e, .b false, .v (.agg x37), .v (.int .i64 x38), .v (.pointer (some ⟨x39p, x39o, some x39l⟩)), .v (.string x40)] (fun e => (callInf cfg 26 [Value.int IntKind.i64 x0, Value.int IntKind.i64 x1, Value.slice (some { block := List.length H, off := 0, spot := some (1 * 1) }) 1 1] (List.length H) (H ++ [AObj.cells [Value.string x2] 9 [Value.string x2].length OMode.row]) = some (Value.int IntKind.i64 x17, H ++ [AObj.cells [Value.string x2] 9 [Value.string x2].length OMode.row])) ∧ ((x17 != 0) = false) ∧ (callInf cfg 27 [Value.int IntKind.i64 x0, Value.int IntKind.i64 x1] (List.length H) (H ++ [AObj.cells [Value.string x2] 9 [Value.string x2].length OMode.row]) = some (Value.tuple { toList := [Value.slice x24aa x24an x24ac, Value.map x24bm, Value.slice x24ca x24cn x24cc, Value.int IntKind.i64 x24d] }, H1)) ∧ ((x24d != 0) = false) ∧ (callInf cfg 30 [Value.int IntKind.i64 x0, Value.int IntKind.i64 x1, Value.string x2] (List.length H) H1 = some (Value.agg x37, H1)) ∧ (alookup cfg.P 53 (Value.map x24bm) (Value.agg x37) false H1 = some (Value.int IntKind.i64 x38)) ∧ (aindexAddr cfg.P 22 (Value.slice x24aa x24an x24ac) (Value.int IntKind.i64 x38) = some (Value.pointer (some { block := x39p, off := x39o, spot := some x39l }))) ∧ (getCells H1 x39p x39l x39o 1 = some [Value.string x40]) ∧ e) (by kernel_rfl) ⟨h1, h2, h3, h4, h5, h6, h7, h8, rfl⟩ rfl
end Go.Proofs.Ytedfombojnfbiaa.Am24
set_option linter.unusedVariables false
open Go Go.Proofs.Ytedfombojnfbiaa.Am
namespace Go.Proofs.Ytedfombojnfbiaa.Am24
theorem f11_F_0 (x0 : Int) (x1 : Int) (x2 : ByteArray) (H : AHeap) (prot : Nat) (x16 : Int) (h1 : callInf cfg 28 [Value.int IntKind.i64 x0, Value.int IntKind.i64 x1, Value.string x2, Value.string { data := { toList := [] } }] (List.length H) H = some (Value.int IntKind.i64 x16, H)) (h2 : (x16 != 0) = true) : callInf cfg 11 [.int .i64 x0, .int .i64 x1, .string x2] prot H = some (Value.tuple { toList := [Value.string { data := { toList := [] } }, Value.int IntKind.i64 x16] }, H) :=
  fn_of a11 [.v (.int .i64 x16), .e, .b true] (fun e => (callInf cfg 28 [Value.int IntKind.i64 x0, Value.int IntKind.i64 x1, Value.string x2, Value.string { data := { toList := [] } }] (List.length H) H = some (Value.int IntKind.i64 x16, H)) ∧ ((x16 != 0) = true) ∧ e) (by kernel_rfl) ⟨h1, h2, rfl⟩ rfl
theorem f11_F_1 (x0 : Int) (x1 : Int) (x2 : ByteArray) (H : AHeap) (prot : Nat) (x16 : Int) (x23aa : Option Addr) (x23an : Nat) (x23ac : Nat) (x23b : Bool) (H1 : AHeap) (z9a : Option Addr) (z9n : Nat) (z9c : Nat) (z11 : Int) (H2 : AHeap) (x48p : Nat) (x48o : Nat) (x48l : Nat) (x50 : ByteArray) (h1 : callInf cfg 28 [Value.int IntKind.i64 x0, Value.int IntKind.i64 x1, Value.string x2, Value.string { data := { toList := [] } }] (List.length H) H = some (Value.int IntKind.i64 x16, H)) (h2 : (x16 != 0) = false) (h3 : callInf cfg 29 [Value.int IntKind.i64 x0, Value.int IntKind.i64 x1] (List.length H) H = some (Value.tuple { toList := [Value.slice x23aa x23an x23ac, Value.bool x23b] }, H1)) (h4 : (!x23b) = false) (h5 : lpInf (lpOf cfg a11 0 prot H) ([Value.string x2, Value.slice x23aa x23an x23ac, Value.int IntKind.i64 0, Value.int IntKind.i64 0], H1) = some (Ex.exit 0, [Value.slice z9a z9n z9c, Value.int IntKind.i64 z11], H2)) (h6 : aindexAddr cfg.P 58 (Value.slice z9a z9n z9c) (Value.int IntKind.i64 z11) = some (Value.pointer (some { block := x48p, off := x48o, spot := some x48l }))) (h7 : getCells H2 x48p x48l (x48o + 0) 1 = some [Value.string x50]) : callInf cfg 11 [.int .i64 x0, .int .i64 x1, .string x2] prot H = some (Value.tuple { toList := [Value.string x50, Value.int IntKind.i64 0] }, H) :=
  fn_of a11 [.v (.int .i64 x16), .e, .b false, .r (.tuple #[.slice x23aa x23an x23ac, .bool x23b]) H1, .e, .b false, .lo (.exit 0, [.slice z9a z9n z9c, .int .i64 z11], H2), .v (.pointer (some ⟨x48p, x48o, some x48l⟩)), .v (.string x50)] (fun e => (callInf cfg 28 [Value.int IntKind.i64 x0, Value.int IntKind.i64 x1, Value.string x2, Value.string { data := { toList := [] } }] (List.length H) H = some (Value.int IntKind.i64 x16, H)) ∧ ((x16 != 0) = false) ∧ (callInf cfg 29 [Value.int IntKind.i64 x0, Value.int IntKind.i64 x1] (List.length H) H = some (Value.tuple { toList := [Value.slice x23aa x23an x23ac, Value.bool x23b] }, H1)) ∧ ((!x23b) = false) ∧ (lpInf (lpOf cfg a11 0 prot H) ([Value.string x2, Value.slice x23aa x23an x23ac, Value.int IntKind.i64 0, Value.int IntKind.i64 0], H1) = some (Ex.exit 0, [Value.slice z9a z9n z9c, Value.int IntKind.i64 z11], H2)) ∧ (aindexAddr cfg.P 58 (Value.slice z9a z9n z9c) (Value.int IntKind.i64 z11) = some (Value.pointer (some { block := x48p, off := x48o, spot := some x48l }))) ∧ (getCells H2 x48p x48l (x48o + 0) 1 = some [Value.string x50]) ∧ e) (by kernel_rfl) ⟨h1, h2, h3, h4, h5, h6, h7, rfl⟩ rfl
theorem f11_F_2 (x0 : Int) (x1 : Int) (x2 : ByteArray) (H : AHeap) (prot : Nat) (x16 : Int) (x23aa : Option Addr) (x23an : Nat) (x23ac : Nat) (x23b : Bool) (H1 : AHeap) (h1 : callInf cfg 28 [Value.int IntKind.i64 x0, Value.int IntKind.i64 x1, Value.string x2, Value.string { data := { toList := [] } }] (List.length H) H = some (Value.int IntKind.i64 x16, H)) (h2 : (x16 != 0) = false) (h3 : callInf cfg 29 [Value.int IntKind.i64 x0, Value.int IntKind.i64 x1] (List.length H) H = some (Value.tuple { toList := [Value.slice x23aa x23an x23ac, Value.bool x23b] }, H1)) (h4 : (!x23b) = true) : callInf cfg 11 [.int .i64 x0, .int .i64 x1, .string x2] prot H = some (Value.tuple { toList := [Value.string { data := { toList := [] } }, Value.int IntKind.i64 6] }, H) :=
  fn_of a11 [.v (.int .i64 x16), .e, .b false, .r (.tuple #[.slice x23aa x23an x23ac, .bool x23b]) H1, .e, .b true] (fun e => (callInf cfg 28 [Value.int IntKind.i64 x0, Value.int IntKind.i64 x1, Value.string x2, Value.string { data := { toList := [] } }] (List.length H) H = some (Value.int IntKind.i64 x16, H)) ∧ ((x16 != 0) = false) ∧ (callInf cfg 29 [Value.int IntKind.i64 x0, Value.int IntKind.i64 x1] (List.length H) H = some (Value.tuple { toList := [Value.slice x23aa x23an x23ac, Value.bool x23b] }, H1)) ∧ ((!x23b) = true) ∧ e) (by kernel_rfl) ⟨h1, h2, h3, h4, rfl⟩ rfl
theorem f11_L0_0 (x2 : ByteArray) (x9a : Option Addr) (x9n : Nat) (x9c : Nat) (x11 : Int) (x12 : Int) (H0 : AHeap) (prot : Nat) (H : AHeap) (x36p : Nat) (x36o : Nat) (x36l : Nat) (x38a : Option Addr) (x38n : Nat) (x38c : Nat) (x44p : Nat) (x44o : Nat) (x44l : Nat) (x45 : Int) (h1 : x12 < (↑x2.size : Int)) (h2 : aindexAddr cfg.P 58 (Value.slice x9a x9n x9c) (Value.int IntKind.i64 x11) = some (Value.pointer (some { block := x36p, off := x36o, spot := some x36l }))) (h3 : getCells H x36p x36l (x36o + 2) 1 = some [Value.slice x38a x38n x38c]) (h4 : 0 ≤ x12) (h5 : Fit IntKind.i64 (IntKind.u8.wrap ((↑(x2.get! x12.toNat).toNat : Int) - 97))) (h6 : aindexAddr cfg.P 54 (Value.slice x38a x38n x38c) (Value.int IntKind.i64 (IntKind.u8.wrap ((↑(x2.get! x12.toNat).toNat : Int) - 97))) = some (Value.pointer (some { block := x44p, off := x44o, spot := some x44l }))) (h7 : getCells H x44p x44l x44o 1 = some [Value.int IntKind.i64 x45]) (h8 : Fit IntKind.i64 (x12 + 1)) : lpOf cfg a11 0 prot H0 ([.string x2, .slice x9a x9n x9c, .int .i64 x11, .int .i64 x12], H) = some (Sum.inl ([Value.string x2, Value.slice x9a x9n x9c, Value.int IntKind.i64 x45, Value.int IntKind.i64 (x12 + 1)], H)) :=
  lp_of [.e, .e, .b true, .v (.pointer (some ⟨x36p, x36o, some x36l⟩)), .v (.slice x38a x38n x38c), .e, .e, .e, .v (.pointer (some ⟨x44p, x44o, some x44l⟩)), .v (.int .i64 x45), .e] (fun e => (decide (x12 < (↑x2.size : Int)) = true) ∧ (aindexAddr cfg.P 58 (Value.slice x9a x9n x9c) (Value.int IntKind.i64 x11) = some (Value.pointer (some { block := x36p, off := x36o, spot := some x36l }))) ∧ (getCells H x36p x36l (x36o + 2) 1 = some [Value.slice x38a x38n x38c]) ∧ (0 ≤ x12) ∧ (x12 < (↑x2.size : Int)) ∧ (Fit IntKind.i64 (IntKind.u8.wrap ((↑(x2.get! x12.toNat).toNat : Int) - 97))) ∧ (aindexAddr cfg.P 54 (Value.slice x38a x38n x38c) (Value.int IntKind.i64 (IntKind.u8.wrap ((↑(x2.get! x12.toNat).toNat : Int) - 97))) = some (Value.pointer (some { block := x44p, off := x44o, spot := some x44l }))) ∧ (getCells H x44p x44l x44o 1 = some [Value.int IntKind.i64 x45]) ∧ (Fit IntKind.i64 (x12 + 1)) ∧ e) (by kernel_rfl) ⟨decide_eq_true h1, h2, h3, h4, h1, h5, h6, h7, h8, rfl⟩
theorem f11_L0_1 (x2 : ByteArray) (x9a : Option Addr) (x9n : Nat) (x9c : Nat) (x11 : Int) (x12 : Int) (H0 : AHeap) (prot : Nat) (H : AHeap) (h1 : ¬(x12 < (↑x2.size : Int))) : lpOf cfg a11 0 prot H0 ([.string x2, .slice x9a x9n x9c, .int .i64 x11, .int .i64 x12], H) = some (Sum.inr (Ex.exit 0, [Value.slice x9a x9n x9c, Value.int IntKind.i64 x11], H)) :=
  lp_of [.e, .e, .b false] (fun e => (decide (x12 < (↑x2.size : Int)) = false) ∧ e) (by kernel_rfl) ⟨decide_eq_false h1, rfl⟩
end Go.Proofs.Ytedfombojnfbiaa.Am24
namespace Go.Proofs.Ytedfombojnfbiaa.Am24
open Go Go.Proofs.Ytedfombojnfbiaa.Am

/-- What Words answers. -/
def wordsV (k n : Int) : List ByteArray × Int :=
  if pchk k n [] = 0 then
    match clsV k.toNat n.toNat with
    | some r => (r.1, 0)
    | none => ([], 6)
  else ([], pchk k n [])

theorem pchk_nil (k n : Int) : pchk k n [⟨#[]⟩, ⟨#[]⟩] = pchk k n [] := by
  unfold pchk
  split
  · rfl
  · rename_i h
    split
    · rfl
    · have : chk k ⟨#[]⟩ = 0 := by unfold chk; rw [if_neg h]; rfl
      simp only [chks, this, if_true]

theorem c8 (k n : Int) (prot : Nat) (H : AHeap) :
    ∃ a' n' c' o' H', callInf cfg 8 [.int .i64 k, .int .i64 n] prot H = some (.tuple #[.slice a' n' c', .int .i64 (wordsV k n).2], H') ∧ Own H' 9 1 (.slice a' n' c') o' n' (sc (wordsV k n).1) ∧ Stay none H H' ∧ (∀ id, o' = some id → H.length ≤ id) := by
  have hc := c26 (k := k) (n := n) (l := []) H.length H (own_nil (H := H) (e := 9) (s := 1)) (by omega)
  unfold wordsV
  by_cases h0 : pchk k n [] = 0
  · rw [if_pos h0]
    rw [h0] at hc
    obtain ⟨a1, a2, a3, a4, _⟩ := pchk_ok h0
    obtain ⟨k, rfl⟩ : ∃ k' : Nat, k = k' := ⟨k.toNat, by omega⟩
    obtain ⟨n, rfl⟩ : ∃ n' : Nat, n = n' := ⟨n.toNat, by omega⟩
    rw [Int.toNat_natCast, Int.toNat_natCast]
    have h27 := c27 (k := k) (n := n) (by omega) (by omega) (by omega) H.length H
    revert h27
    cases clsV k n with
    | some r =>
      rintro ⟨a4, c4, a6, n6, c6, o4, om, o6, H1, h1, h2, h3, h4, h5, h6, h7, h8, h9, h10⟩
      obtain ⟨x', o2, H5, r1, r2, r3, r4, _⟩ := gc_row (H := H) h2 (fun id h => by cases h; exact h5) (sc_plain _) (ps := [.int .i64 0]) rfl
      obtain ⟨a2, c2, rfl⟩ := r2.len
      refine ⟨a2, r.1.length, c2, o2, H5, f8_F_1 k n H prot 0 a4 _ c4 (some om) a6 n6 c6 0 H1 _ H5 hc rfl h1 ?_, r2, r3, r4⟩
      rw [pfin_eq]; exact r1
    | none =>
      intro h1
      refine ⟨none, 0, 0, none, H, f8_F_1 k n H prot 0 none 0 0 none none 0 0 6 H _ H hc rfl h1 ?_, own_nil, Stay.refl _ _, fun id h => by cases h⟩
      rw [pfin_eq]
      exact gc_plain (H1 := H) (vs := [.slice none 0 0, .int .i64 6]) rfl
  · rw [if_neg h0]
    exact ⟨none, 0, 0, none, H, f8_F_0 k n H prot _ hc (by simpa using h0), own_nil, Stay.refl _ _, fun id h => by cases h⟩

theorem loop9 {k N : Nat} {ws : List ByteArray} {nv : Nat → Value} {y : Value} {oy : Nat} (H0 : AHeap) (prot : Nat) (hle : ws.length ≤ 3000) (hoy : H0.length ≤ oy) : ∀ (d i : Nat) (x : Value) (o : Option Nat) (H : AHeap), i + d = ws.length →
    Own H 62 3 y (some oy) ws.length (cc k N nv ws 0) → Own H 9 1 x o i (sc (ws.take i)) → (∀ id, o = some id → oy < id) →
    ∃ a' c' o' H', lpInf (lpOf cfg a9 0 prot H0) ([y, x, .int .i64 i], H) = some (.exit 0, [.slice a' ws.length c'], H') ∧ Own H' 9 1 (.slice a' ws.length c') o' ws.length (sc ws) ∧ (∀ id, o' = some id → H0.length ≤ id)
  | 0, i, x, o, H, hi, hy, hx, ho => by
    obtain ⟨a, c, rfl⟩ := hx.len
    obtain ⟨ya, yc, rfl⟩ := hy.len
    have : i = ws.length := by omega
    subst this
    rw [List.take_length] at hx
    exact ⟨a, c, o, H, lp_last (f9_L0_1 ya _ yc a _ c (ws.length : Nat) H0 prot H (by omega)), hx, fun id h => by have := ho id h; omega⟩
  | d + 1, i, x, o, H, hi, hy, hx, ho => by
    obtain ⟨a, c, rfl⟩ := hx.len
    obtain ⟨ya, yc, rfl⟩ := hy.len
    have hil : i < ws.length := by omega
    have hlt := own_lt hy
    obtain ⟨id, hid, g1, g2⟩ := own_atS T58 hy hil
    cases hid
    have g3 := g2 0 1 (by omega)
    rw [cc_get k N nv hil 0 rfl] at g3
    obtain ⟨a', c', o', H', q1, q2, q3, q4, q5, q6⟩ := own_app T22 hx (ecs := [.string ws[i]]) rfl rfl (prot := H0.length) (room := true) (fun id h => by have := ho id h; omega) (by omega) (by omega) (L := 1 * 1) rfl (el := [Value.string ws[i]].length) rfl
    have step := f9_L0_0 ya _ yc a i c i H0 prot H oy (i * 3) _ ws[i] a' (i + 1) c' H' (by omega) g1 g3 q1 (fit64 (by omega) (by omega))
    have hw' : sc (ws.take i) ++ [.string ws[i]] = sc (ws.take (i + 1)) := by rw [List.take_add_one, List.getElem?_eq_getElem hil, sc_append]; rfl
    rw [hw'] at q2
    obtain ⟨a2, c2, o2, H2, p1, p2, p3⟩ := loop9 H0 prot hle hoy d (i + 1) _ (some o') H' (by omega) (hy.stay q3 (fun id h e => by cases h; have := ho oy e; omega)) q2 (fun id h => by
      cases h
      cases o with
      | none => have := q5 rfl; omega
      | some oid => rw [q6 oid rfl]; exact ho oid rfl)
    exact ⟨a2, c2, o2, H2, lp_next step p1, p2, p3⟩

theorem c9 (k n : Int) (prot : Nat) (H : AHeap) :
    ∃ a' n' c' o' H', callInf cfg 9 [.int .i64 k, .int .i64 n] prot H = some (.tuple #[.slice a' n' c', .int .i64 (wordsV k n).2], H') ∧ Own H' 9 1 (.slice a' n' c') o' n' (sc (wordsV k n).1) ∧ Stay none H H' ∧ (∀ id, o' = some id → H.length ≤ id) := by
  have hc := c28 k n ⟨#[]⟩ ⟨#[]⟩ (by decide) (by decide) H.length H
  rw [pchk_nil] at hc
  unfold wordsV
  by_cases h0 : pchk k n [] = 0
  · rw [if_pos h0]
    rw [h0] at hc
    obtain ⟨a1, a2, a3, a4, _⟩ := pchk_ok h0
    obtain ⟨k, rfl⟩ : ∃ k' : Nat, k = k' := ⟨k.toNat, by omega⟩
    obtain ⟨n, rfl⟩ : ∃ n' : Nat, n = n' := ⟨n.toNat, by omega⟩
    rw [Int.toNat_natCast, Int.toNat_natCast]
    have h29 := c29 (k := k) (n := n) (by omega) (by omega) (by omega) H.length H
    revert h29
    cases clsV k n with
    | some r =>
      rintro ⟨a7, c7, o7, nv, nid, H1, h1, h2, h3, h4, h5, h6, h7⟩
      obtain ⟨a9, c9, o9, H2, s1, s2, s3⟩ := loop9 H prot h6.le h4 r.1.length 0 (.slice none 0 0) none H1 (by omega) h2 own_nil (fun id h => by cases h)
      obtain ⟨x', o2, H5, r1, r2, r3, r4, _⟩ := gc_row (H := H) s2 s3 (sc_plain _) (ps := [.int .i64 0]) rfl
      obtain ⟨a2, c2, rfl⟩ := r2.len
      refine ⟨a2, r.1.length, c2, o2, H5, f9_F_1 k n H prot 0 a7 _ c7 true H1 a9 _ c9 H2 _ H5 hc rfl h1 rfl s1 ?_, r2, r3, r4⟩
      rw [pfin_eq]; exact r1
    | none =>
      intro h1
      exact ⟨none, 0, 0, none, H, f9_F_2 k n H prot 0 none 0 0 false H hc rfl h1 rfl, own_nil, Stay.refl _ _, fun id h => by cases h⟩
  · rw [if_neg h0]
    exact ⟨none, 0, 0, none, H, f9_F_0 k n H prot _ hc (by simpa using h0), own_nil, Stay.refl _ _, fun id h => by cases h⟩

/-- What Short answers. -/
def shortV (k n : Int) (w : ByteArray) : ByteArray × Int :=
  if pchk k n [w] = 0 then
    match clsV k.toNat n.toNat with
    | some r => (r.1.getD (wlk k.toNat r.2 w w.size 0 0) ⟨#[]⟩, 0)
    | none => (⟨#[]⟩, 6)
  else (⟨#[]⟩, pchk k n [w])

theorem look_k0 {ks : List (List Nat)} (hk : ∀ y ∈ ks, KOK y) {y : List Nat} (hy : KOK y) {H : AHeap} {om i : Nat} (hm : H[om]? = some (.map (ents ks))) (hi : kix y ks = some i) :
    alookup cfg.P 53 (.map (some om)) (kval y) false H = some (.int .i64 (i : Int)) := by
  unfold alookup
  rw [tm53, Option.bind_some]
  have ho : amapOf (.map (some om)) H = some (ents ks) := by unfold amapOf; simp only; rw [hm]
  rw [ho, Option.bind_some, if_pos (kval_plain1 y)]
  simp only
  rw [check_k hy, Option.bind_some, find_k hk hy, Option.bind_some, z3, Option.bind_some]
  rw [if_pos (by rfl), hi]
  have hil : i < ks.length := by
    unfold kix at hi
    exact (List.findIdx?_eq_some_iff_getElem.1 hi).1
  simp [ents_get hil]

theorem c10 (k n : Int) (w : ByteArray) (hs : w.size < 9223372036854775807) (prot : Nat) (H : AHeap) :
    callInf cfg 10 [.int .i64 k, .int .i64 n, .string w] prot H = some (.tuple #[.string (shortV k n w).1, .int .i64 (shortV k n w).2], H) := by
  let H1 := H ++ [AObj.cells (sc [w]) 9 (sc [w]).length .row]
  have l1 : H1.length = H.length + 1 := by simp [H1]
  have hc := c26 (k := k) (n := n) (l := [w]) H.length H1 (own_new (H := H) (e := 9) (s := 1) (n := 1) (cs := sc [w]) rfl (by omega) (L := 1 * 1) rfl rfl) (by omega)
  unfold shortV
  by_cases h0 : pchk k n [w] = 0
  · rw [if_pos h0]
    rw [h0] at hc
    obtain ⟨a1, a2, a3, a4, a5⟩ := pchk_ok h0
    obtain ⟨k, rfl⟩ : ∃ k' : Nat, k = k' := ⟨k.toNat, by omega⟩
    obtain ⟨n, rfl⟩ : ∃ n' : Nat, n = n' := ⟨n.toNat, by omega⟩
    rw [Int.toNat_natCast] at a5
    have ww : Wd k w := a5 w (by simp)
    rw [Int.toNat_natCast, Int.toNat_natCast]
    have h27 := c27 (k := k) (n := n) (by omega) (by omega) (by omega) H.length H1
    have hcls := fun r => cls_ok (k := k) (n := n) (r := r)
    revert h27 hcls
    cases clsV k n with
    | some r =>
      intro h27 hcls
      obtain ⟨a4, c4, a6, n6, c6, o4, om, o6, H2, h1, h2, h3, h4, h5, h6, h7, h8, h9, h10⟩ := h27
      obtain ⟨ok, hl⟩ := hcls r rfl
      obtain ⟨u, hu, hal⟩ := wlk_ok (by omega) (by omega) ok hl h9.wd ww w.size 0 0 (by omega) ⟨⟨#[]⟩, ok.fst, fun p hp => by rw [List.take_zero]; rfl⟩
      simp only
      generalize wlk k r.2 w w.size 0 0 = at_ at hu
      have hat : at_ < r.1.length := (List.getElem?_eq_some_iff.1 hu).1
      have hwu := h9.wd u (List.mem_of_getElem? hu)
      have hkix : kix (kindOf k n w) (r.1.map (kindOf k n)) = some at_ := by
        rw [findC_kix (by omega) (by omega) (by omega) h9.wd ww]
        unfold findC
        rw [List.findIdx?_eq_some_iff_getElem]
        refine ⟨hat, ?_, fun j hj => ?_⟩
        · have e : r.1[at_] = u := by rw [List.getElem?_eq_getElem hat] at hu; exact Option.some.inj hu
          rw [e, (dif_alike (by omega) (by omega) hwu ww).2 hal]
          rfl
        · intro hh
          have hjl : j < r.1.length := by omega
          have hd : dif k r.1[j] w (sho k (n + 1)) 0 = none := by simpa using hh
          have := cls_uniq (by omega) (by omega) ok h9.wd (List.getElem?_eq_getElem hjl) hu (Alike.trans ((dif_alike (by omega) (by omega) (h9.wd _ (List.getElem_mem hjl)) ww).1 hd) (Alike.symm hal))
          omega
      have hks : ∀ z ∈ r.1.map (kindOf k n), KOK z := fun z hz => by
        obtain ⟨u, _, rfl⟩ := List.mem_map.1 hz
        exact kindOf_ok k n u
      obtain ⟨id, hid, g1, g2⟩ := own_at T22 h2 (sc_get hu)
      have hgd : r.1.getD at_ ⟨#[]⟩ = u := by rw [List.getD_eq_getElem?_getD, hu]; rfl
      rw [hgd]
      exact f10_F_2 k n w H prot 0 a4 _ c4 (some om) a6 n6 c6 0 H2 (kc (kindOf k n w)).toArray at_ id at_ _ u hc rfl h1 rfl (c30 (by omega) (by omega) ww hs _ _) (look_k0 hks (kindOf_ok _ _ _) h3 hkix) g1 g2
    | none =>
      intro h1 _
      exact f10_F_1 k n w H prot 0 none 0 0 none none 0 0 6 H1 hc rfl h1 rfl
  · rw [if_neg h0]
    exact f10_F_0 k n w H prot _ hc (by simpa using h0)

theorem loop11 {k n : Nat} (hk1 : 1 ≤ k) (hk : k ≤ 8) {ws : List ByteArray} {nx : List Nat} {nv : Nat → Value} {nid : Nat → Option Nat} {y : Value} {oy : Nat} {w : ByteArray} (hs : w.size < 9223372036854775807) (hw : Wd k w) (H0 H : AHeap) (prot : Nat) (hle : ws.length ≤ 3000) (ok : ClsOK k (sho k (n + 1)) ws nx) (hl : nx.length = ws.length * k)
    (hy : Own H 62 3 y (some oy) ws.length (cc k (sho k (n + 1)) nv ws 0)) (hx : ∀ j, j < ws.length → Own H 3 1 (nv j) (nid j) (nn k nx j).length (ic (nn k nx j))) : ∀ (d p a : Nat), p + d = w.size → a < ws.length →
    ∃ a' c', lpInf (lpOf cfg a11 0 prot H0) ([.string w, y, .int .i64 a, .int .i64 p], H) = some (.exit 0, [.slice a' ws.length c', .int .i64 (wlk k nx w d p a : Nat)], H) ∧ y = .slice a' ws.length c'
  | 0, p, a, hp, ha => by
    obtain ⟨ya, yc, rfl⟩ := hy.len
    exact ⟨ya, yc, lp_last (f11_L0_1 w ya _ yc a p H0 prot H (by omega)), rfl⟩
  | d + 1, p, a, hp, ha => by
    obtain ⟨ya, yc, rfl⟩ := hy.len
    obtain ⟨id, hid, g1, g2⟩ := own_atS T58 hy ha
    have g3 := g2 2 1 (by omega)
    rw [cc_get k (sho k (n + 1)) nv ha 2 rfl] at g3
    have hc := hw p (by omega)
    have hlt : (w.get! p).toNat < 256 := (w.get! p).toNat_lt
    have hlk : ltr w p < k := by unfold ltr; omega
    have hq : a * k + k ≤ nx.length := by
      have := Nat.mul_le_mul (show a + 1 ≤ ws.length by omega) (Nat.le_refl k)
      rw [Nat.add_mul, Nat.one_mul] at this
      omega
    have hnl : (nn k nx a).length = k := by unfold nn; simp; omega
    have hxa := hx a ha
    obtain ⟨xa, xc, hnv⟩ := hxa.len
    rw [hnv] at g3 hxa
    have hv : (ic (nn k nx a))[ltr w p]? = some (.int .i64 ((nx.getD (a * k + ltr w p) 0 : Nat) : Int)) := by
      have h1 : (nn k nx a)[ltr w p]? = some (nx.getD (a * k + ltr w p) 0) := by
        unfold nn
        rw [List.getElem?_take_of_lt hlk, List.getElem?_drop, List.getD_eq_getElem?_getD, List.getElem?_eq_getElem (by omega)]
        rfl
      simp [ic, h1]
    obtain ⟨id2, _, g4, g5⟩ := own_at T54 hxa hv
    have hu8 : IntKind.u8.wrap (((w.get! p).toNat : Int) - 97) = (ltr w p : Int) := u8_sub (by omega) hlt
    have hpn : ((p : Int)).toNat = p := by omega
    have step := f11_L0_0 w ya _ yc a p H0 prot H id (a * 3) _ xa _ xc id2 (ltr w p) _ ((nx.getD (a * k + ltr w p) 0 : Nat) : Int) (by omega) g1 g3 (by omega) (by rw [hpn, hu8]; exact fit64 (by omega) (by omega)) (by rw [hpn, hu8]; exact g4) g5 (fit64 (by omega) (by omega))
    have hj : nx.getD (a * k + ltr w p) 0 < ws.length := by
      have hql : a * k + ltr w p < nx.length := by omega
      obtain ⟨u, _, h1, _, _⟩ := ok.nxt _ _ (List.getElem?_eq_getElem hql)
      have e : nx.getD (a * k + ltr w p) 0 = nx[a * k + ltr w p] := by simp [List.getD_eq_getElem?_getD, List.getElem?_eq_getElem hql]
      rw [e]
      exact (List.getElem?_eq_some_iff.1 h1).1
    obtain ⟨a', c', q1, q2⟩ := loop11 hk1 hk hs hw H0 H prot hle ok hl hy hx d (p + 1) _ (by omega) hj
    exact ⟨a', c', lp_next step q1, q2⟩

theorem c11 (k n : Int) (w : ByteArray) (hs : w.size < 9223372036854775807) (prot : Nat) (H : AHeap) :
    callInf cfg 11 [.int .i64 k, .int .i64 n, .string w] prot H = some (.tuple #[.string (shortV k n w).1, .int .i64 (shortV k n w).2], H) := by
  have hc := c28 k n w ⟨#[]⟩ hs (by decide) H.length H
  rw [pchk_empty] at hc
  unfold shortV
  by_cases h0 : pchk k n [w] = 0
  · rw [if_pos h0]
    rw [h0] at hc
    obtain ⟨a1, a2, a3, a4, a5⟩ := pchk_ok h0
    obtain ⟨k, rfl⟩ : ∃ k' : Nat, k = k' := ⟨k.toNat, by omega⟩
    obtain ⟨n, rfl⟩ : ∃ n' : Nat, n = n' := ⟨n.toNat, by omega⟩
    rw [Int.toNat_natCast] at a5
    have ww : Wd k w := a5 w (by simp)
    rw [Int.toNat_natCast, Int.toNat_natCast]
    have h29 := c29 (k := k) (n := n) (by omega) (by omega) (by omega) H.length H
    have hcls := fun r => cls_ok (k := k) (n := n) (r := r)
    revert h29 hcls
    cases clsV k n with
    | some r =>
      intro h29 hcls
      obtain ⟨a7, c7, o7, nv, nid, H1, h1, h2, h3, h4, h5, h6, h7⟩ := h29
      obtain ⟨ok, hl⟩ := hcls r rfl
      obtain ⟨a', c', q1, q2⟩ := loop11 (by omega) (by omega) hs ww H H1 prot h6.le ok hl h2 h3 w.size 0 0 (by omega) h6.pos
      obtain ⟨u, hu, hal⟩ := wlk_ok (by omega) (by omega) ok hl h6.wd ww w.size 0 0 (by omega) ⟨⟨#[]⟩, ok.fst, fun p hp => by rw [List.take_zero]; rfl⟩
      simp only
      have hat : wlk k r.2 w w.size 0 0 < r.1.length := (List.getElem?_eq_some_iff.1 hu).1
      injection q2 with e1 e2 e3
      subst e1; subst e3
      obtain ⟨id, hid, g1, g2⟩ := own_atS T58 h2 hat
      have g3 := g2 0 1 (by omega)
      rw [cc_get k (sho k (n + 1)) nv hat 0 rfl] at g3
      have hgd : r.1.getD (wlk k r.2 w w.size 0 0) ⟨#[]⟩ = r.1[wlk k r.2 w w.size 0 0] := by rw [List.getD_eq_getElem?_getD, List.getElem?_eq_getElem hat]; rfl
      rw [hgd]
      exact f11_F_1 k n w H prot 0 a7 _ c7 true H1 a7 _ c7 (wlk k r.2 w w.size 0 0 : Nat) H1 id (wlk k r.2 w w.size 0 0 * 3) _ _ hc rfl h1 rfl q1 g1 g3
    | none =>
      intro h1 _
      exact f11_F_2 k n w H prot 0 none 0 0 false H hc rfl h1 rfl
  · rw [if_neg h0]
    exact f11_F_0 k n w H prot _ hc (by simpa using h0)
end Go.Proofs.Ytedfombojnfbiaa.Am24
set_option linter.unusedVariables false
open Go Go.Proofs.Ytedfombojnfbiaa.Am
namespace Go.Proofs.Ytedfombojnfbiaa.Am24
theorem f5_F_0 (x0 : Int) (x1 : Int) (x2 : ByteArray) (x3 : ByteArray) (H : AHeap) (prot : Nat) (x27aa : Option Addr) (x27an : Nat) (x27ac : Nat) (x27b : Int) (H1 : AHeap) (x34aa : Option Addr) (x34an : Nat) (x34ac : Nat) (x34b : Int) (H2 : AHeap) (x42a : Bool) (x42b : Int) (x50a : Bool) (x50b : Int) (x58a : ByteArray) (x58b : Bool) (x58c : Int) (x67a : ByteArray) (x67b : Bool) (x67c : Int) (x73 : Bool) (x76 : Bool) (x81 : Bool) (x85 : Int) (x96 : Int) (x112 : Int) (x117 : Bool) (h1 : callInf cfg 18 [Value.int IntKind.i64 x0, Value.string x2, Value.int IntKind.i64 x1] (List.length H) H = some (Value.tuple { toList := [Value.slice x27aa x27an x27ac, Value.int IntKind.i64 x27b] }, H1)) (h2 : callInf cfg 19 [Value.int IntKind.i64 x0, Value.string x2, Value.int IntKind.i64 x1] (List.length H) H1 = some (Value.tuple { toList := [Value.slice x34aa x34an x34ac, Value.int IntKind.i64 x34b] }, H2)) (h3 : callInf cfg 16 [Value.int IntKind.i64 x0, Value.int IntKind.i64 x1, Value.string x2, Value.string x3] (List.length H) H2 = some (Value.tuple { toList := [Value.bool x42a, Value.int IntKind.i64 x42b] }, H2)) (h4 : callInf cfg 20 [Value.int IntKind.i64 x0, Value.int IntKind.i64 x1, Value.string x2, Value.string x3] (List.length H) H2 = some (Value.tuple { toList := [Value.bool x50a, Value.int IntKind.i64 x50b] }, H2)) (h5 : callInf cfg 21 [Value.int IntKind.i64 x0, Value.int IntKind.i64 x1, Value.string x2, Value.string x3] (List.length H) H2 = some (Value.tuple { toList := [Value.string x58a, Value.bool x58b, Value.int IntKind.i64 x58c] }, H2)) (h6 : callInf cfg 22 [Value.int IntKind.i64 x0, Value.int IntKind.i64 x1, Value.string x2, Value.string x3] (List.length H) H2 = some (Value.tuple { toList := [Value.string x67a, Value.bool x67b, Value.int IntKind.i64 x67c] }, H2)) (h7 : callInf cfg 23 [Value.string x2, Value.string x3] (List.length H) H2 = some (Value.bool x73, H2)) (h8 : callInf cfg 24 [Value.string x2, Value.string x3] (List.length H) H2 = some (Value.bool x76, H2)) (h9 : (x73 == x76) = true) (h10 : callInf cfg 12 [Value.slice x27aa x27an x27ac, Value.slice x34aa x34an x34ac] (List.length H) H2 = some (Value.bool x81, H2)) (h11 : x81 = true) (h12 : callInf cfg 13 [Value.int IntKind.i64 x27b] (List.length H) H2 = some (Value.int IntKind.i64 x85, H2)) (h13 : (x85 == x34b) = true) (h14 : (x42a == x50a) = true) (h15 : callInf cfg 13 [Value.int IntKind.i64 x42b] (List.length H) H2 = some (Value.int IntKind.i64 x96, H2)) (h16 : (x96 == x50b) = true) (h17 : (x58a.toList == x67a.toList) = true) (h18 : (x58b == x67b) = true) (h19 : callInf cfg 13 [Value.int IntKind.i64 x58c] (List.length H) H2 = some (Value.int IntKind.i64 x112, H2)) (h20 : (x112 == x67c) = true) (h21 : callInf cfg 14 [] (List.length H) H2 = some (Value.bool x117, H2)) : callInf cfg 5 [.int .i64 x0, .int .i64 x1, .string x2, .string x3] prot H = some (Value.bool x117, H) :=
  fn_of a5 [.r (.tuple #[.slice x27aa x27an x27ac, .int .i64 x27b]) H1, .r (.tuple #[.slice x34aa x34an x34ac, .int .i64 x34b]) H2, .v (.tuple #[.bool x42a, .int .i64 x42b]), .v (.tuple #[.bool x50a, .int .i64 x50b]), .v (.tuple #[.string x58a, .bool x58b, .int .i64 x58c]), .v (.tuple #[.string x67a, .bool x67b, .int .i64 x67c]), .v (.bool x73), .v (.bool x76), .e, .b true, .b true, .b true, .v (.bool x81), .b true, .b true, .b true, .v (.int .i64 x85), .b true, .b true, .e, .b true, .b true, .b true, .b true, .e, .b true, .b true, .b true, .v (.int .i64 x96), .b true, .b true, .e, .b true, .b true, .b true, .b true, .e, .b true, .b true, .b true, .b true, .e, .b true, .b true, .b true, .v (.int .i64 x112), .b true, .b true, .e, .b true, .b true, .v (.bool x117), .b true] (fun e => (callInf cfg 18 [Value.int IntKind.i64 x0, Value.string x2, Value.int IntKind.i64 x1] (List.length H) H = some (Value.tuple { toList := [Value.slice x27aa x27an x27ac, Value.int IntKind.i64 x27b] }, H1)) ∧ (callInf cfg 19 [Value.int IntKind.i64 x0, Value.string x2, Value.int IntKind.i64 x1] (List.length H) H1 = some (Value.tuple { toList := [Value.slice x34aa x34an x34ac, Value.int IntKind.i64 x34b] }, H2)) ∧ (callInf cfg 16 [Value.int IntKind.i64 x0, Value.int IntKind.i64 x1, Value.string x2, Value.string x3] (List.length H) H2 = some (Value.tuple { toList := [Value.bool x42a, Value.int IntKind.i64 x42b] }, H2)) ∧ (callInf cfg 20 [Value.int IntKind.i64 x0, Value.int IntKind.i64 x1, Value.string x2, Value.string x3] (List.length H) H2 = some (Value.tuple { toList := [Value.bool x50a, Value.int IntKind.i64 x50b] }, H2)) ∧ (callInf cfg 21 [Value.int IntKind.i64 x0, Value.int IntKind.i64 x1, Value.string x2, Value.string x3] (List.length H) H2 = some (Value.tuple { toList := [Value.string x58a, Value.bool x58b, Value.int IntKind.i64 x58c] }, H2)) ∧ (callInf cfg 22 [Value.int IntKind.i64 x0, Value.int IntKind.i64 x1, Value.string x2, Value.string x3] (List.length H) H2 = some (Value.tuple { toList := [Value.string x67a, Value.bool x67b, Value.int IntKind.i64 x67c] }, H2)) ∧ (callInf cfg 23 [Value.string x2, Value.string x3] (List.length H) H2 = some (Value.bool x73, H2)) ∧ (callInf cfg 24 [Value.string x2, Value.string x3] (List.length H) H2 = some (Value.bool x76, H2)) ∧ ((x73 == x76) = true) ∧ ((x73 == x76) = true) ∧ ((x73 == x76) = true) ∧ (callInf cfg 12 [Value.slice x27aa x27an x27ac, Value.slice x34aa x34an x34ac] (List.length H) H2 = some (Value.bool x81, H2)) ∧ ((x73 == x76) = true) ∧ (x81 = true) ∧ (x81 = true) ∧ (callInf cfg 13 [Value.int IntKind.i64 x27b] (List.length H) H2 = some (Value.int IntKind.i64 x85, H2)) ∧ (x81 = true) ∧ (x81 = true) ∧ (x81 = true) ∧ ((x85 == x34b) = true) ∧ ((x85 == x34b) = true) ∧ ((x85 == x34b) = true) ∧ ((x85 == x34b) = true) ∧ ((x42a == x50a) = true) ∧ ((x42a == x50a) = true) ∧ (callInf cfg 13 [Value.int IntKind.i64 x42b] (List.length H) H2 = some (Value.int IntKind.i64 x96, H2)) ∧ ((x42a == x50a) = true) ∧ ((x42a == x50a) = true) ∧ ((x42a == x50a) = true) ∧ ((x96 == x50b) = true) ∧ ((x96 == x50b) = true) ∧ ((x96 == x50b) = true) ∧ ((x96 == x50b) = true) ∧ ((x58a.toList == x67a.toList) = true) ∧ ((x58a.toList == x67a.toList) = true) ∧ ((x58a.toList == x67a.toList) = true) ∧ ((x58a.toList == x67a.toList) = true) ∧ ((x58b == x67b) = true) ∧ ((x58b == x67b) = true) ∧ (callInf cfg 13 [Value.int IntKind.i64 x58c] (List.length H) H2 = some (Value.int IntKind.i64 x112, H2)) ∧ ((x58b == x67b) = true) ∧ ((x58b == x67b) = true) ∧ ((x58b == x67b) = true) ∧ ((x112 == x67c) = true) ∧ (callInf cfg 14 [] (List.length H) H2 = some (Value.bool x117, H2)) ∧ ((x112 == x67c) = true) ∧ e) (by kernel_rfl) ⟨h1, h2, h3, h4, h5, h6, h7, h8, h9, h9, h9, h10, h9, h11, h11, h12, h11, h11, h11, h13, h13, h13, h13, h14, h14, h15, h14, h14, h14, h16, h16, h16, h16, h17, h17, h17, h17, h18, h18, h19, h18, h18, h18, h20, h21, h20, rfl⟩ rfl
theorem f5_F_1 (x0 : Int) (x1 : Int) (x2 : ByteArray) (x3 : ByteArray) (H : AHeap) (prot : Nat) (x27aa : Option Addr) (x27an : Nat) (x27ac : Nat) (x27b : Int) (H1 : AHeap) (x34aa : Option Addr) (x34an : Nat) (x34ac : Nat) (x34b : Int) (H2 : AHeap) (x42a : Bool) (x42b : Int) (x50a : Bool) (x50b : Int) (x58a : ByteArray) (x58b : Bool) (x58c : Int) (x67a : ByteArray) (x67b : Bool) (x67c : Int) (x73 : Bool) (x76 : Bool) (x81 : Bool) (x85 : Int) (x96 : Int) (x112 : Int) (h1 : callInf cfg 18 [Value.int IntKind.i64 x0, Value.string x2, Value.int IntKind.i64 x1] (List.length H) H = some (Value.tuple { toList := [Value.slice x27aa x27an x27ac, Value.int IntKind.i64 x27b] }, H1)) (h2 : callInf cfg 19 [Value.int IntKind.i64 x0, Value.string x2, Value.int IntKind.i64 x1] (List.length H) H1 = some (Value.tuple { toList := [Value.slice x34aa x34an x34ac, Value.int IntKind.i64 x34b] }, H2)) (h3 : callInf cfg 16 [Value.int IntKind.i64 x0, Value.int IntKind.i64 x1, Value.string x2, Value.string x3] (List.length H) H2 = some (Value.tuple { toList := [Value.bool x42a, Value.int IntKind.i64 x42b] }, H2)) (h4 : callInf cfg 20 [Value.int IntKind.i64 x0, Value.int IntKind.i64 x1, Value.string x2, Value.string x3] (List.length H) H2 = some (Value.tuple { toList := [Value.bool x50a, Value.int IntKind.i64 x50b] }, H2)) (h5 : callInf cfg 21 [Value.int IntKind.i64 x0, Value.int IntKind.i64 x1, Value.string x2, Value.string x3] (List.length H) H2 = some (Value.tuple { toList := [Value.string x58a, Value.bool x58b, Value.int IntKind.i64 x58c] }, H2)) (h6 : callInf cfg 22 [Value.int IntKind.i64 x0, Value.int IntKind.i64 x1, Value.string x2, Value.string x3] (List.length H) H2 = some (Value.tuple { toList := [Value.string x67a, Value.bool x67b, Value.int IntKind.i64 x67c] }, H2)) (h7 : callInf cfg 23 [Value.string x2, Value.string x3] (List.length H) H2 = some (Value.bool x73, H2)) (h8 : callInf cfg 24 [Value.string x2, Value.string x3] (List.length H) H2 = some (Value.bool x76, H2)) (h9 : (x73 == x76) = true) (h10 : callInf cfg 12 [Value.slice x27aa x27an x27ac, Value.slice x34aa x34an x34ac] (List.length H) H2 = some (Value.bool x81, H2)) (h11 : x81 = true) (h12 : callInf cfg 13 [Value.int IntKind.i64 x27b] (List.length H) H2 = some (Value.int IntKind.i64 x85, H2)) (h13 : (x85 == x34b) = true) (h14 : (x42a == x50a) = true) (h15 : callInf cfg 13 [Value.int IntKind.i64 x42b] (List.length H) H2 = some (Value.int IntKind.i64 x96, H2)) (h16 : (x96 == x50b) = true) (h17 : (x58a.toList == x67a.toList) = true) (h18 : (x58b == x67b) = true) (h19 : callInf cfg 13 [Value.int IntKind.i64 x58c] (List.length H) H2 = some (Value.int IntKind.i64 x112, H2)) (h20 : (x112 == x67c) = false) : callInf cfg 5 [.int .i64 x0, .int .i64 x1, .string x2, .string x3] prot H = some (Value.bool false, H) :=
  fn_of a5 [.r (.tuple #[.slice x27aa x27an x27ac, .int .i64 x27b]) H1, .r (.tuple #[.slice x34aa x34an x34ac, .int .i64 x34b]) H2, .v (.tuple #[.bool x42a, .int .i64 x42b]), .v (.tuple #[.bool x50a, .int .i64 x50b]), .v (.tuple #[.string x58a, .bool x58b, .int .i64 x58c]), .v (.tuple #[.string x67a, .bool x67b, .int .i64 x67c]), .v (.bool x73), .v (.bool x76), .e, .b true, .b true, .b true, .v (.bool x81), .b true, .b true, .b true, .v (.int .i64 x85), .b true, .b true, .e, .b true, .b true, .b true, .b true, .e, .b true, .b true, .b true, .v (.int .i64 x96), .b true, .b true, .e, .b true, .b true, .b true, .b true, .e, .b true, .b true, .b true, .b true, .e, .b true, .b true, .b true, .v (.int .i64 x112), .b true, .b true, .e, .b true, .b false, .b false] (fun e => (callInf cfg 18 [Value.int IntKind.i64 x0, Value.string x2, Value.int IntKind.i64 x1] (List.length H) H = some (Value.tuple { toList := [Value.slice x27aa x27an x27ac, Value.int IntKind.i64 x27b] }, H1)) ∧ (callInf cfg 19 [Value.int IntKind.i64 x0, Value.string x2, Value.int IntKind.i64 x1] (List.length H) H1 = some (Value.tuple { toList := [Value.slice x34aa x34an x34ac, Value.int IntKind.i64 x34b] }, H2)) ∧ (callInf cfg 16 [Value.int IntKind.i64 x0, Value.int IntKind.i64 x1, Value.string x2, Value.string x3] (List.length H) H2 = some (Value.tuple { toList := [Value.bool x42a, Value.int IntKind.i64 x42b] }, H2)) ∧ (callInf cfg 20 [Value.int IntKind.i64 x0, Value.int IntKind.i64 x1, Value.string x2, Value.string x3] (List.length H) H2 = some (Value.tuple { toList := [Value.bool x50a, Value.int IntKind.i64 x50b] }, H2)) ∧ (callInf cfg 21 [Value.int IntKind.i64 x0, Value.int IntKind.i64 x1, Value.string x2, Value.string x3] (List.length H) H2 = some (Value.tuple { toList := [Value.string x58a, Value.bool x58b, Value.int IntKind.i64 x58c] }, H2)) ∧ (callInf cfg 22 [Value.int IntKind.i64 x0, Value.int IntKind.i64 x1, Value.string x2, Value.string x3] (List.length H) H2 = some (Value.tuple { toList := [Value.string x67a, Value.bool x67b, Value.int IntKind.i64 x67c] }, H2)) ∧ (callInf cfg 23 [Value.string x2, Value.string x3] (List.length H) H2 = some (Value.bool x73, H2)) ∧ (callInf cfg 24 [Value.string x2, Value.string x3] (List.length H) H2 = some (Value.bool x76, H2)) ∧ ((x73 == x76) = true) ∧ ((x73 == x76) = true) ∧ ((x73 == x76) = true) ∧ (callInf cfg 12 [Value.slice x27aa x27an x27ac, Value.slice x34aa x34an x34ac] (List.length H) H2 = some (Value.bool x81, H2)) ∧ ((x73 == x76) = true) ∧ (x81 = true) ∧ (x81 = true) ∧ (callInf cfg 13 [Value.int IntKind.i64 x27b] (List.length H) H2 = some (Value.int IntKind.i64 x85, H2)) ∧ (x81 = true) ∧ (x81 = true) ∧ (x81 = true) ∧ ((x85 == x34b) = true) ∧ ((x85 == x34b) = true) ∧ ((x85 == x34b) = true) ∧ ((x85 == x34b) = true) ∧ ((x42a == x50a) = true) ∧ ((x42a == x50a) = true) ∧ (callInf cfg 13 [Value.int IntKind.i64 x42b] (List.length H) H2 = some (Value.int IntKind.i64 x96, H2)) ∧ ((x42a == x50a) = true) ∧ ((x42a == x50a) = true) ∧ ((x42a == x50a) = true) ∧ ((x96 == x50b) = true) ∧ ((x96 == x50b) = true) ∧ ((x96 == x50b) = true) ∧ ((x96 == x50b) = true) ∧ ((x58a.toList == x67a.toList) = true) ∧ ((x58a.toList == x67a.toList) = true) ∧ ((x58a.toList == x67a.toList) = true) ∧ ((x58a.toList == x67a.toList) = true) ∧ ((x58b == x67b) = true) ∧ ((x58b == x67b) = true) ∧ (callInf cfg 13 [Value.int IntKind.i64 x58c] (List.length H) H2 = some (Value.int IntKind.i64 x112, H2)) ∧ ((x58b == x67b) = true) ∧ ((x58b == x67b) = true) ∧ ((x58b == x67b) = true) ∧ ((x112 == x67c) = false) ∧ ((x112 == x67c) = false) ∧ e) (by kernel_rfl) ⟨h1, h2, h3, h4, h5, h6, h7, h8, h9, h9, h9, h10, h9, h11, h11, h12, h11, h11, h11, h13, h13, h13, h13, h14, h14, h15, h14, h14, h14, h16, h16, h16, h16, h17, h17, h17, h17, h18, h18, h19, h18, h18, h18, h20, h20, rfl⟩ rfl
theorem f5_F_2 (x0 : Int) (x1 : Int) (x2 : ByteArray) (x3 : ByteArray) (H : AHeap) (prot : Nat) (x27aa : Option Addr) (x27an : Nat) (x27ac : Nat) (x27b : Int) (H1 : AHeap) (x34aa : Option Addr) (x34an : Nat) (x34ac : Nat) (x34b : Int) (H2 : AHeap) (x42a : Bool) (x42b : Int) (x50a : Bool) (x50b : Int) (x58a : ByteArray) (x58b : Bool) (x58c : Int) (x67a : ByteArray) (x67b : Bool) (x67c : Int) (x73 : Bool) (x76 : Bool) (x81 : Bool) (x85 : Int) (x96 : Int) (h1 : callInf cfg 18 [Value.int IntKind.i64 x0, Value.string x2, Value.int IntKind.i64 x1] (List.length H) H = some (Value.tuple { toList := [Value.slice x27aa x27an x27ac, Value.int IntKind.i64 x27b] }, H1)) (h2 : callInf cfg 19 [Value.int IntKind.i64 x0, Value.string x2, Value.int IntKind.i64 x1] (List.length H) H1 = some (Value.tuple { toList := [Value.slice x34aa x34an x34ac, Value.int IntKind.i64 x34b] }, H2)) (h3 : callInf cfg 16 [Value.int IntKind.i64 x0, Value.int IntKind.i64 x1, Value.string x2, Value.string x3] (List.length H) H2 = some (Value.tuple { toList := [Value.bool x42a, Value.int IntKind.i64 x42b] }, H2)) (h4 : callInf cfg 20 [Value.int IntKind.i64 x0, Value.int IntKind.i64 x1, Value.string x2, Value.string x3] (List.length H) H2 = some (Value.tuple { toList := [Value.bool x50a, Value.int IntKind.i64 x50b] }, H2)) (h5 : callInf cfg 21 [Value.int IntKind.i64 x0, Value.int IntKind.i64 x1, Value.string x2, Value.string x3] (List.length H) H2 = some (Value.tuple { toList := [Value.string x58a, Value.bool x58b, Value.int IntKind.i64 x58c] }, H2)) (h6 : callInf cfg 22 [Value.int IntKind.i64 x0, Value.int IntKind.i64 x1, Value.string x2, Value.string x3] (List.length H) H2 = some (Value.tuple { toList := [Value.string x67a, Value.bool x67b, Value.int IntKind.i64 x67c] }, H2)) (h7 : callInf cfg 23 [Value.string x2, Value.string x3] (List.length H) H2 = some (Value.bool x73, H2)) (h8 : callInf cfg 24 [Value.string x2, Value.string x3] (List.length H) H2 = some (Value.bool x76, H2)) (h9 : (x73 == x76) = true) (h10 : callInf cfg 12 [Value.slice x27aa x27an x27ac, Value.slice x34aa x34an x34ac] (List.length H) H2 = some (Value.bool x81, H2)) (h11 : x81 = true) (h12 : callInf cfg 13 [Value.int IntKind.i64 x27b] (List.length H) H2 = some (Value.int IntKind.i64 x85, H2)) (h13 : (x85 == x34b) = true) (h14 : (x42a == x50a) = true) (h15 : callInf cfg 13 [Value.int IntKind.i64 x42b] (List.length H) H2 = some (Value.int IntKind.i64 x96, H2)) (h16 : (x96 == x50b) = true) (h17 : (x58a.toList == x67a.toList) = true) (h18 : (x58b == x67b) = false) : callInf cfg 5 [.int .i64 x0, .int .i64 x1, .string x2, .string x3] prot H = some (Value.bool false, H) :=
  fn_of a5 [.r (.tuple #[.slice x27aa x27an x27ac, .int .i64 x27b]) H1, .r (.tuple #[.slice x34aa x34an x34ac, .int .i64 x34b]) H2, .v (.tuple #[.bool x42a, .int .i64 x42b]), .v (.tuple #[.bool x50a, .int .i64 x50b]), .v (.tuple #[.string x58a, .bool x58b, .int .i64 x58c]), .v (.tuple #[.string x67a, .bool x67b, .int .i64 x67c]), .v (.bool x73), .v (.bool x76), .e, .b true, .b true, .b true, .v (.bool x81), .b true, .b true, .b true, .v (.int .i64 x85), .b true, .b true, .e, .b true, .b true, .b true, .b true, .e, .b true, .b true, .b true, .v (.int .i64 x96), .b true, .b true, .e, .b true, .b true, .b true, .b true, .e, .b true, .b true, .b true, .b true, .e, .b true, .b false, .b false, .b false, .b false, .b false, .b false, .b false] (fun e => (callInf cfg 18 [Value.int IntKind.i64 x0, Value.string x2, Value.int IntKind.i64 x1] (List.length H) H = some (Value.tuple { toList := [Value.slice x27aa x27an x27ac, Value.int IntKind.i64 x27b] }, H1)) ∧ (callInf cfg 19 [Value.int IntKind.i64 x0, Value.string x2, Value.int IntKind.i64 x1] (List.length H) H1 = some (Value.tuple { toList := [Value.slice x34aa x34an x34ac, Value.int IntKind.i64 x34b] }, H2)) ∧ (callInf cfg 16 [Value.int IntKind.i64 x0, Value.int IntKind.i64 x1, Value.string x2, Value.string x3] (List.length H) H2 = some (Value.tuple { toList := [Value.bool x42a, Value.int IntKind.i64 x42b] }, H2)) ∧ (callInf cfg 20 [Value.int IntKind.i64 x0, Value.int IntKind.i64 x1, Value.string x2, Value.string x3] (List.length H) H2 = some (Value.tuple { toList := [Value.bool x50a, Value.int IntKind.i64 x50b] }, H2)) ∧ (callInf cfg 21 [Value.int IntKind.i64 x0, Value.int IntKind.i64 x1, Value.string x2, Value.string x3] (List.length H) H2 = some (Value.tuple { toList := [Value.string x58a, Value.bool x58b, Value.int IntKind.i64 x58c] }, H2)) ∧ (callInf cfg 22 [Value.int IntKind.i64 x0, Value.int IntKind.i64 x1, Value.string x2, Value.string x3] (List.length H) H2 = some (Value.tuple { toList := [Value.string x67a, Value.bool x67b, Value.int IntKind.i64 x67c] }, H2)) ∧ (callInf cfg 23 [Value.string x2, Value.string x3] (List.length H) H2 = some (Value.bool x73, H2)) ∧ (callInf cfg 24 [Value.string x2, Value.string x3] (List.length H) H2 = some (Value.bool x76, H2)) ∧ ((x73 == x76) = true) ∧ ((x73 == x76) = true) ∧ ((x73 == x76) = true) ∧ (callInf cfg 12 [Value.slice x27aa x27an x27ac, Value.slice x34aa x34an x34ac] (List.length H) H2 = some (Value.bool x81, H2)) ∧ ((x73 == x76) = true) ∧ (x81 = true) ∧ (x81 = true) ∧ (callInf cfg 13 [Value.int IntKind.i64 x27b] (List.length H) H2 = some (Value.int IntKind.i64 x85, H2)) ∧ (x81 = true) ∧ (x81 = true) ∧ (x81 = true) ∧ ((x85 == x34b) = true) ∧ ((x85 == x34b) = true) ∧ ((x85 == x34b) = true) ∧ ((x85 == x34b) = true) ∧ ((x42a == x50a) = true) ∧ ((x42a == x50a) = true) ∧ (callInf cfg 13 [Value.int IntKind.i64 x42b] (List.length H) H2 = some (Value.int IntKind.i64 x96, H2)) ∧ ((x42a == x50a) = true) ∧ ((x42a == x50a) = true) ∧ ((x42a == x50a) = true) ∧ ((x96 == x50b) = true) ∧ ((x96 == x50b) = true) ∧ ((x96 == x50b) = true) ∧ ((x96 == x50b) = true) ∧ ((x58a.toList == x67a.toList) = true) ∧ ((x58a.toList == x67a.toList) = true) ∧ ((x58a.toList == x67a.toList) = true) ∧ ((x58a.toList == x67a.toList) = true) ∧ ((x58b == x67b) = false) ∧ ((x58b == x67b) = false) ∧ ((x58b == x67b) = false) ∧ ((x58b == x67b) = false) ∧ ((x58b == x67b) = false) ∧ (false = false) ∧ (false = false) ∧ e) (by kernel_rfl) ⟨h1, h2, h3, h4, h5, h6, h7, h8, h9, h9, h9, h10, h9, h11, h11, h12, h11, h11, h11, h13, h13, h13, h13, h14, h14, h15, h14, h14, h14, h16, h16, h16, h16, h17, h17, h17, h17, h18, h18, h18, h18, h18, rfl, rfl, rfl⟩ rfl
theorem f5_F_3 (x0 : Int) (x1 : Int) (x2 : ByteArray) (x3 : ByteArray) (H : AHeap) (prot : Nat) (x27aa : Option Addr) (x27an : Nat) (x27ac : Nat) (x27b : Int) (H1 : AHeap) (x34aa : Option Addr) (x34an : Nat) (x34ac : Nat) (x34b : Int) (H2 : AHeap) (x42a : Bool) (x42b : Int) (x50a : Bool) (x50b : Int) (x58a : ByteArray) (x58b : Bool) (x58c : Int) (x67a : ByteArray) (x67b : Bool) (x67c : Int) (x73 : Bool) (x76 : Bool) (x81 : Bool) (x85 : Int) (x96 : Int) (h1 : callInf cfg 18 [Value.int IntKind.i64 x0, Value.string x2, Value.int IntKind.i64 x1] (List.length H) H = some (Value.tuple { toList := [Value.slice x27aa x27an x27ac, Value.int IntKind.i64 x27b] }, H1)) (h2 : callInf cfg 19 [Value.int IntKind.i64 x0, Value.string x2, Value.int IntKind.i64 x1] (List.length H) H1 = some (Value.tuple { toList := [Value.slice x34aa x34an x34ac, Value.int IntKind.i64 x34b] }, H2)) (h3 : callInf cfg 16 [Value.int IntKind.i64 x0, Value.int IntKind.i64 x1, Value.string x2, Value.string x3] (List.length H) H2 = some (Value.tuple { toList := [Value.bool x42a, Value.int IntKind.i64 x42b] }, H2)) (h4 : callInf cfg 20 [Value.int IntKind.i64 x0, Value.int IntKind.i64 x1, Value.string x2, Value.string x3] (List.length H) H2 = some (Value.tuple { toList := [Value.bool x50a, Value.int IntKind.i64 x50b] }, H2)) (h5 : callInf cfg 21 [Value.int IntKind.i64 x0, Value.int IntKind.i64 x1, Value.string x2, Value.string x3] (List.length H) H2 = some (Value.tuple { toList := [Value.string x58a, Value.bool x58b, Value.int IntKind.i64 x58c] }, H2)) (h6 : callInf cfg 22 [Value.int IntKind.i64 x0, Value.int IntKind.i64 x1, Value.string x2, Value.string x3] (List.length H) H2 = some (Value.tuple { toList := [Value.string x67a, Value.bool x67b, Value.int IntKind.i64 x67c] }, H2)) (h7 : callInf cfg 23 [Value.string x2, Value.string x3] (List.length H) H2 = some (Value.bool x73, H2)) (h8 : callInf cfg 24 [Value.string x2, Value.string x3] (List.length H) H2 = some (Value.bool x76, H2)) (h9 : (x73 == x76) = true) (h10 : callInf cfg 12 [Value.slice x27aa x27an x27ac, Value.slice x34aa x34an x34ac] (List.length H) H2 = some (Value.bool x81, H2)) (h11 : x81 = true) (h12 : callInf cfg 13 [Value.int IntKind.i64 x27b] (List.length H) H2 = some (Value.int IntKind.i64 x85, H2)) (h13 : (x85 == x34b) = true) (h14 : (x42a == x50a) = true) (h15 : callInf cfg 13 [Value.int IntKind.i64 x42b] (List.length H) H2 = some (Value.int IntKind.i64 x96, H2)) (h16 : (x96 == x50b) = true) (h17 : (x58a.toList == x67a.toList) = false) : callInf cfg 5 [.int .i64 x0, .int .i64 x1, .string x2, .string x3] prot H = some (Value.bool false, H) :=
  fn_of a5 [.r (.tuple #[.slice x27aa x27an x27ac, .int .i64 x27b]) H1, .r (.tuple #[.slice x34aa x34an x34ac, .int .i64 x34b]) H2, .v (.tuple #[.bool x42a, .int .i64 x42b]), .v (.tuple #[.bool x50a, .int .i64 x50b]), .v (.tuple #[.string x58a, .bool x58b, .int .i64 x58c]), .v (.tuple #[.string x67a, .bool x67b, .int .i64 x67c]), .v (.bool x73), .v (.bool x76), .e, .b true, .b true, .b true, .v (.bool x81), .b true, .b true, .b true, .v (.int .i64 x85), .b true, .b true, .e, .b true, .b true, .b true, .b true, .e, .b true, .b true, .b true, .v (.int .i64 x96), .b true, .b true, .e, .b true, .b true, .b true, .b true, .e, .b true, .b false, .b false, .b false, .b false, .b false, .b false, .b false, .b false, .b false, .b false, .b false] (fun e => (callInf cfg 18 [Value.int IntKind.i64 x0, Value.string x2, Value.int IntKind.i64 x1] (List.length H) H = some (Value.tuple { toList := [Value.slice x27aa x27an x27ac, Value.int IntKind.i64 x27b] }, H1)) ∧ (callInf cfg 19 [Value.int IntKind.i64 x0, Value.string x2, Value.int IntKind.i64 x1] (List.length H) H1 = some (Value.tuple { toList := [Value.slice x34aa x34an x34ac, Value.int IntKind.i64 x34b] }, H2)) ∧ (callInf cfg 16 [Value.int IntKind.i64 x0, Value.int IntKind.i64 x1, Value.string x2, Value.string x3] (List.length H) H2 = some (Value.tuple { toList := [Value.bool x42a, Value.int IntKind.i64 x42b] }, H2)) ∧ (callInf cfg 20 [Value.int IntKind.i64 x0, Value.int IntKind.i64 x1, Value.string x2, Value.string x3] (List.length H) H2 = some (Value.tuple { toList := [Value.bool x50a, Value.int IntKind.i64 x50b] }, H2)) ∧ (callInf cfg 21 [Value.int IntKind.i64 x0, Value.int IntKind.i64 x1, Value.string x2, Value.string x3] (List.length H) H2 = some (Value.tuple { toList := [Value.string x58a, Value.bool x58b, Value.int IntKind.i64 x58c] }, H2)) ∧ (callInf cfg 22 [Value.int IntKind.i64 x0, Value.int IntKind.i64 x1, Value.string x2, Value.string x3] (List.length H) H2 = some (Value.tuple { toList := [Value.string x67a, Value.bool x67b, Value.int IntKind.i64 x67c] }, H2)) ∧ (callInf cfg 23 [Value.string x2, Value.string x3] (List.length H) H2 = some (Value.bool x73, H2)) ∧ (callInf cfg 24 [Value.string x2, Value.string x3] (List.length H) H2 = some (Value.bool x76, H2)) ∧ ((x73 == x76) = true) ∧ ((x73 == x76) = true) ∧ ((x73 == x76) = true) ∧ (callInf cfg 12 [Value.slice x27aa x27an x27ac, Value.slice x34aa x34an x34ac] (List.length H) H2 = some (Value.bool x81, H2)) ∧ ((x73 == x76) = true) ∧ (x81 = true) ∧ (x81 = true) ∧ (callInf cfg 13 [Value.int IntKind.i64 x27b] (List.length H) H2 = some (Value.int IntKind.i64 x85, H2)) ∧ (x81 = true) ∧ (x81 = true) ∧ (x81 = true) ∧ ((x85 == x34b) = true) ∧ ((x85 == x34b) = true) ∧ ((x85 == x34b) = true) ∧ ((x85 == x34b) = true) ∧ ((x42a == x50a) = true) ∧ ((x42a == x50a) = true) ∧ (callInf cfg 13 [Value.int IntKind.i64 x42b] (List.length H) H2 = some (Value.int IntKind.i64 x96, H2)) ∧ ((x42a == x50a) = true) ∧ ((x42a == x50a) = true) ∧ ((x42a == x50a) = true) ∧ ((x96 == x50b) = true) ∧ ((x96 == x50b) = true) ∧ ((x96 == x50b) = true) ∧ ((x96 == x50b) = true) ∧ ((x58a.toList == x67a.toList) = false) ∧ ((x58a.toList == x67a.toList) = false) ∧ ((x58a.toList == x67a.toList) = false) ∧ ((x58a.toList == x67a.toList) = false) ∧ (false = false) ∧ (false = false) ∧ (false = false) ∧ (false = false) ∧ (false = false) ∧ (false = false) ∧ (false = false) ∧ e) (by kernel_rfl) ⟨h1, h2, h3, h4, h5, h6, h7, h8, h9, h9, h9, h10, h9, h11, h11, h12, h11, h11, h11, h13, h13, h13, h13, h14, h14, h15, h14, h14, h14, h16, h16, h16, h16, h17, h17, h17, h17, rfl, rfl, rfl, rfl, rfl, rfl, rfl, rfl⟩ rfl
theorem f5_F_4 (x0 : Int) (x1 : Int) (x2 : ByteArray) (x3 : ByteArray) (H : AHeap) (prot : Nat) (x27aa : Option Addr) (x27an : Nat) (x27ac : Nat) (x27b : Int) (H1 : AHeap) (x34aa : Option Addr) (x34an : Nat) (x34ac : Nat) (x34b : Int) (H2 : AHeap) (x42a : Bool) (x42b : Int) (x50a : Bool) (x50b : Int) (x58a : ByteArray) (x58b : Bool) (x58c : Int) (x67a : ByteArray) (x67b : Bool) (x67c : Int) (x73 : Bool) (x76 : Bool) (x81 : Bool) (x85 : Int) (x96 : Int) (h1 : callInf cfg 18 [Value.int IntKind.i64 x0, Value.string x2, Value.int IntKind.i64 x1] (List.length H) H = some (Value.tuple { toList := [Value.slice x27aa x27an x27ac, Value.int IntKind.i64 x27b] }, H1)) (h2 : callInf cfg 19 [Value.int IntKind.i64 x0, Value.string x2, Value.int IntKind.i64 x1] (List.length H) H1 = some (Value.tuple { toList := [Value.slice x34aa x34an x34ac, Value.int IntKind.i64 x34b] }, H2)) (h3 : callInf cfg 16 [Value.int IntKind.i64 x0, Value.int IntKind.i64 x1, Value.string x2, Value.string x3] (List.length H) H2 = some (Value.tuple { toList := [Value.bool x42a, Value.int IntKind.i64 x42b] }, H2)) (h4 : callInf cfg 20 [Value.int IntKind.i64 x0, Value.int IntKind.i64 x1, Value.string x2, Value.string x3] (List.length H) H2 = some (Value.tuple { toList := [Value.bool x50a, Value.int IntKind.i64 x50b] }, H2)) (h5 : callInf cfg 21 [Value.int IntKind.i64 x0, Value.int IntKind.i64 x1, Value.string x2, Value.string x3] (List.length H) H2 = some (Value.tuple { toList := [Value.string x58a, Value.bool x58b, Value.int IntKind.i64 x58c] }, H2)) (h6 : callInf cfg 22 [Value.int IntKind.i64 x0, Value.int IntKind.i64 x1, Value.string x2, Value.string x3] (List.length H) H2 = some (Value.tuple { toList := [Value.string x67a, Value.bool x67b, Value.int IntKind.i64 x67c] }, H2)) (h7 : callInf cfg 23 [Value.string x2, Value.string x3] (List.length H) H2 = some (Value.bool x73, H2)) (h8 : callInf cfg 24 [Value.string x2, Value.string x3] (List.length H) H2 = some (Value.bool x76, H2)) (h9 : (x73 == x76) = true) (h10 : callInf cfg 12 [Value.slice x27aa x27an x27ac, Value.slice x34aa x34an x34ac] (List.length H) H2 = some (Value.bool x81, H2)) (h11 : x81 = true) (h12 : callInf cfg 13 [Value.int IntKind.i64 x27b] (List.length H) H2 = some (Value.int IntKind.i64 x85, H2)) (h13 : (x85 == x34b) = true) (h14 : (x42a == x50a) = true) (h15 : callInf cfg 13 [Value.int IntKind.i64 x42b] (List.length H) H2 = some (Value.int IntKind.i64 x96, H2)) (h16 : (x96 == x50b) = false) : callInf cfg 5 [.int .i64 x0, .int .i64 x1, .string x2, .string x3] prot H = some (Value.bool false, H) :=
  fn_of a5 [.r (.tuple #[.slice x27aa x27an x27ac, .int .i64 x27b]) H1, .r (.tuple #[.slice x34aa x34an x34ac, .int .i64 x34b]) H2, .v (.tuple #[.bool x42a, .int .i64 x42b]), .v (.tuple #[.bool x50a, .int .i64 x50b]), .v (.tuple #[.string x58a, .bool x58b, .int .i64 x58c]), .v (.tuple #[.string x67a, .bool x67b, .int .i64 x67c]), .v (.bool x73), .v (.bool x76), .e, .b true, .b true, .b true, .v (.bool x81), .b true, .b true, .b true, .v (.int .i64 x85), .b true, .b true, .e, .b true, .b true, .b true, .b true, .e, .b true, .b true, .b true, .v (.int .i64 x96), .b true, .b true, .e, .b true, .b false, .b false, .b false, .b false, .b false, .b false, .b false, .b false, .b false, .b false, .b false, .b false, .b false, .b false, .b false] (fun e => (callInf cfg 18 [Value.int IntKind.i64 x0, Value.string x2, Value.int IntKind.i64 x1] (List.length H) H = some (Value.tuple { toList := [Value.slice x27aa x27an x27ac, Value.int IntKind.i64 x27b] }, H1)) ∧ (callInf cfg 19 [Value.int IntKind.i64 x0, Value.string x2, Value.int IntKind.i64 x1] (List.length H) H1 = some (Value.tuple { toList := [Value.slice x34aa x34an x34ac, Value.int IntKind.i64 x34b] }, H2)) ∧ (callInf cfg 16 [Value.int IntKind.i64 x0, Value.int IntKind.i64 x1, Value.string x2, Value.string x3] (List.length H) H2 = some (Value.tuple { toList := [Value.bool x42a, Value.int IntKind.i64 x42b] }, H2)) ∧ (callInf cfg 20 [Value.int IntKind.i64 x0, Value.int IntKind.i64 x1, Value.string x2, Value.string x3] (List.length H) H2 = some (Value.tuple { toList := [Value.bool x50a, Value.int IntKind.i64 x50b] }, H2)) ∧ (callInf cfg 21 [Value.int IntKind.i64 x0, Value.int IntKind.i64 x1, Value.string x2, Value.string x3] (List.length H) H2 = some (Value.tuple { toList := [Value.string x58a, Value.bool x58b, Value.int IntKind.i64 x58c] }, H2)) ∧ (callInf cfg 22 [Value.int IntKind.i64 x0, Value.int IntKind.i64 x1, Value.string x2, Value.string x3] (List.length H) H2 = some (Value.tuple { toList := [Value.string x67a, Value.bool x67b, Value.int IntKind.i64 x67c] }, H2)) ∧ (callInf cfg 23 [Value.string x2, Value.string x3] (List.length H) H2 = some (Value.bool x73, H2)) ∧ (callInf cfg 24 [Value.string x2, Value.string x3] (List.length H) H2 = some (Value.bool x76, H2)) ∧ ((x73 == x76) = true) ∧ ((x73 == x76) = true) ∧ ((x73 == x76) = true) ∧ (callInf cfg 12 [Value.slice x27aa x27an x27ac, Value.slice x34aa x34an x34ac] (List.length H) H2 = some (Value.bool x81, H2)) ∧ ((x73 == x76) = true) ∧ (x81 = true) ∧ (x81 = true) ∧ (callInf cfg 13 [Value.int IntKind.i64 x27b] (List.length H) H2 = some (Value.int IntKind.i64 x85, H2)) ∧ (x81 = true) ∧ (x81 = true) ∧ (x81 = true) ∧ ((x85 == x34b) = true) ∧ ((x85 == x34b) = true) ∧ ((x85 == x34b) = true) ∧ ((x85 == x34b) = true) ∧ ((x42a == x50a) = true) ∧ ((x42a == x50a) = true) ∧ (callInf cfg 13 [Value.int IntKind.i64 x42b] (List.length H) H2 = some (Value.int IntKind.i64 x96, H2)) ∧ ((x42a == x50a) = true) ∧ ((x42a == x50a) = true) ∧ ((x42a == x50a) = true) ∧ ((x96 == x50b) = false) ∧ ((x96 == x50b) = false) ∧ ((x96 == x50b) = false) ∧ ((x96 == x50b) = false) ∧ (false = false) ∧ (false = false) ∧ (false = false) ∧ (false = false) ∧ (false = false) ∧ (false = false) ∧ (false = false) ∧ (false = false) ∧ (false = false) ∧ (false = false) ∧ (false = false) ∧ e) (by kernel_rfl) ⟨h1, h2, h3, h4, h5, h6, h7, h8, h9, h9, h9, h10, h9, h11, h11, h12, h11, h11, h11, h13, h13, h13, h13, h14, h14, h15, h14, h14, h14, h16, h16, h16, h16, rfl, rfl, rfl, rfl, rfl, rfl, rfl, rfl, rfl, rfl, rfl, rfl⟩ rfl
theorem f5_F_5 (x0 : Int) (x1 : Int) (x2 : ByteArray) (x3 : ByteArray) (H : AHeap) (prot : Nat) (x27aa : Option Addr) (x27an : Nat) (x27ac : Nat) (x27b : Int) (H1 : AHeap) (x34aa : Option Addr) (x34an : Nat) (x34ac : Nat) (x34b : Int) (H2 : AHeap) (x42a : Bool) (x42b : Int) (x50a : Bool) (x50b : Int) (x58a : ByteArray) (x58b : Bool) (x58c : Int) (x67a : ByteArray) (x67b : Bool) (x67c : Int) (x73 : Bool) (x76 : Bool) (x81 : Bool) (x85 : Int) (h1 : callInf cfg 18 [Value.int IntKind.i64 x0, Value.string x2, Value.int IntKind.i64 x1] (List.length H) H = some (Value.tuple { toList := [Value.slice x27aa x27an x27ac, Value.int IntKind.i64 x27b] }, H1)) (h2 : callInf cfg 19 [Value.int IntKind.i64 x0, Value.string x2, Value.int IntKind.i64 x1] (List.length H) H1 = some (Value.tuple { toList := [Value.slice x34aa x34an x34ac, Value.int IntKind.i64 x34b] }, H2)) (h3 : callInf cfg 16 [Value.int IntKind.i64 x0, Value.int IntKind.i64 x1, Value.string x2, Value.string x3] (List.length H) H2 = some (Value.tuple { toList := [Value.bool x42a, Value.int IntKind.i64 x42b] }, H2)) (h4 : callInf cfg 20 [Value.int IntKind.i64 x0, Value.int IntKind.i64 x1, Value.string x2, Value.string x3] (List.length H) H2 = some (Value.tuple { toList := [Value.bool x50a, Value.int IntKind.i64 x50b] }, H2)) (h5 : callInf cfg 21 [Value.int IntKind.i64 x0, Value.int IntKind.i64 x1, Value.string x2, Value.string x3] (List.length H) H2 = some (Value.tuple { toList := [Value.string x58a, Value.bool x58b, Value.int IntKind.i64 x58c] }, H2)) (h6 : callInf cfg 22 [Value.int IntKind.i64 x0, Value.int IntKind.i64 x1, Value.string x2, Value.string x3] (List.length H) H2 = some (Value.tuple { toList := [Value.string x67a, Value.bool x67b, Value.int IntKind.i64 x67c] }, H2)) (h7 : callInf cfg 23 [Value.string x2, Value.string x3] (List.length H) H2 = some (Value.bool x73, H2)) (h8 : callInf cfg 24 [Value.string x2, Value.string x3] (List.length H) H2 = some (Value.bool x76, H2)) (h9 : (x73 == x76) = true) (h10 : callInf cfg 12 [Value.slice x27aa x27an x27ac, Value.slice x34aa x34an x34ac] (List.length H) H2 = some (Value.bool x81, H2)) (h11 : x81 = true) (h12 : callInf cfg 13 [Value.int IntKind.i64 x27b] (List.length H) H2 = some (Value.int IntKind.i64 x85, H2)) (h13 : (x85 == x34b) = true) (h14 : (x42a == x50a) = false) : callInf cfg 5 [.int .i64 x0, .int .i64 x1, .string x2, .string x3] prot H = some (Value.bool false, H) :=
  fn_of a5 [.r (.tuple #[.slice x27aa x27an x27ac, .int .i64 x27b]) H1, .r (.tuple #[.slice x34aa x34an x34ac, .int .i64 x34b]) H2, .v (.tuple #[.bool x42a, .int .i64 x42b]), .v (.tuple #[.bool x50a, .int .i64 x50b]), .v (.tuple #[.string x58a, .bool x58b, .int .i64 x58c]), .v (.tuple #[.string x67a, .bool x67b, .int .i64 x67c]), .v (.bool x73), .v (.bool x76), .e, .b true, .b true, .b true, .v (.bool x81), .b true, .b true, .b true, .v (.int .i64 x85), .b true, .b true, .e, .b true, .b true, .b true, .b true, .e, .b true, .b false, .b false, .b false, .b false, .b false, .b false, .b false, .b false, .b false, .b false, .b false, .b false, .b false, .b false, .b false, .b false, .b false, .b false, .b false, .b false] (fun e => (callInf cfg 18 [Value.int IntKind.i64 x0, Value.string x2, Value.int IntKind.i64 x1] (List.length H) H = some (Value.tuple { toList := [Value.slice x27aa x27an x27ac, Value.int IntKind.i64 x27b] }, H1)) ∧ (callInf cfg 19 [Value.int IntKind.i64 x0, Value.string x2, Value.int IntKind.i64 x1] (List.length H) H1 = some (Value.tuple { toList := [Value.slice x34aa x34an x34ac, Value.int IntKind.i64 x34b] }, H2)) ∧ (callInf cfg 16 [Value.int IntKind.i64 x0, Value.int IntKind.i64 x1, Value.string x2, Value.string x3] (List.length H) H2 = some (Value.tuple { toList := [Value.bool x42a, Value.int IntKind.i64 x42b] }, H2)) ∧ (callInf cfg 20 [Value.int IntKind.i64 x0, Value.int IntKind.i64 x1, Value.string x2, Value.string x3] (List.length H) H2 = some (Value.tuple { toList := [Value.bool x50a, Value.int IntKind.i64 x50b] }, H2)) ∧ (callInf cfg 21 [Value.int IntKind.i64 x0, Value.int IntKind.i64 x1, Value.string x2, Value.string x3] (List.length H) H2 = some (Value.tuple { toList := [Value.string x58a, Value.bool x58b, Value.int IntKind.i64 x58c] }, H2)) ∧ (callInf cfg 22 [Value.int IntKind.i64 x0, Value.int IntKind.i64 x1, Value.string x2, Value.string x3] (List.length H) H2 = some (Value.tuple { toList := [Value.string x67a, Value.bool x67b, Value.int IntKind.i64 x67c] }, H2)) ∧ (callInf cfg 23 [Value.string x2, Value.string x3] (List.length H) H2 = some (Value.bool x73, H2)) ∧ (callInf cfg 24 [Value.string x2, Value.string x3] (List.length H) H2 = some (Value.bool x76, H2)) ∧ ((x73 == x76) = true) ∧ ((x73 == x76) = true) ∧ ((x73 == x76) = true) ∧ (callInf cfg 12 [Value.slice x27aa x27an x27ac, Value.slice x34aa x34an x34ac] (List.length H) H2 = some (Value.bool x81, H2)) ∧ ((x73 == x76) = true) ∧ (x81 = true) ∧ (x81 = true) ∧ (callInf cfg 13 [Value.int IntKind.i64 x27b] (List.length H) H2 = some (Value.int IntKind.i64 x85, H2)) ∧ (x81 = true) ∧ (x81 = true) ∧ (x81 = true) ∧ ((x85 == x34b) = true) ∧ ((x85 == x34b) = true) ∧ ((x85 == x34b) = true) ∧ ((x85 == x34b) = true) ∧ ((x42a == x50a) = false) ∧ ((x42a == x50a) = false) ∧ ((x42a == x50a) = false) ∧ ((x42a == x50a) = false) ∧ ((x42a == x50a) = false) ∧ (false = false) ∧ (false = false) ∧ (false = false) ∧ (false = false) ∧ (false = false) ∧ (false = false) ∧ (false = false) ∧ (false = false) ∧ (false = false) ∧ (false = false) ∧ (false = false) ∧ (false = false) ∧ (false = false) ∧ (false = false) ∧ (false = false) ∧ e) (by kernel_rfl) ⟨h1, h2, h3, h4, h5, h6, h7, h8, h9, h9, h9, h10, h9, h11, h11, h12, h11, h11, h11, h13, h13, h13, h13, h14, h14, h14, h14, h14, rfl, rfl, rfl, rfl, rfl, rfl, rfl, rfl, rfl, rfl, rfl, rfl, rfl, rfl, rfl, rfl⟩ rfl
theorem f5_F_6 (x0 : Int) (x1 : Int) (x2 : ByteArray) (x3 : ByteArray) (H : AHeap) (prot : Nat) (x27aa : Option Addr) (x27an : Nat) (x27ac : Nat) (x27b : Int) (H1 : AHeap) (x34aa : Option Addr) (x34an : Nat) (x34ac : Nat) (x34b : Int) (H2 : AHeap) (x42a : Bool) (x42b : Int) (x50a : Bool) (x50b : Int) (x58a : ByteArray) (x58b : Bool) (x58c : Int) (x67a : ByteArray) (x67b : Bool) (x67c : Int) (x73 : Bool) (x76 : Bool) (x81 : Bool) (x85 : Int) (h1 : callInf cfg 18 [Value.int IntKind.i64 x0, Value.string x2, Value.int IntKind.i64 x1] (List.length H) H = some (Value.tuple { toList := [Value.slice x27aa x27an x27ac, Value.int IntKind.i64 x27b] }, H1)) (h2 : callInf cfg 19 [Value.int IntKind.i64 x0, Value.string x2, Value.int IntKind.i64 x1] (List.length H) H1 = some (Value.tuple { toList := [Value.slice x34aa x34an x34ac, Value.int IntKind.i64 x34b] }, H2)) (h3 : callInf cfg 16 [Value.int IntKind.i64 x0, Value.int IntKind.i64 x1, Value.string x2, Value.string x3] (List.length H) H2 = some (Value.tuple { toList := [Value.bool x42a, Value.int IntKind.i64 x42b] }, H2)) (h4 : callInf cfg 20 [Value.int IntKind.i64 x0, Value.int IntKind.i64 x1, Value.string x2, Value.string x3] (List.length H) H2 = some (Value.tuple { toList := [Value.bool x50a, Value.int IntKind.i64 x50b] }, H2)) (h5 : callInf cfg 21 [Value.int IntKind.i64 x0, Value.int IntKind.i64 x1, Value.string x2, Value.string x3] (List.length H) H2 = some (Value.tuple { toList := [Value.string x58a, Value.bool x58b, Value.int IntKind.i64 x58c] }, H2)) (h6 : callInf cfg 22 [Value.int IntKind.i64 x0, Value.int IntKind.i64 x1, Value.string x2, Value.string x3] (List.length H) H2 = some (Value.tuple { toList := [Value.string x67a, Value.bool x67b, Value.int IntKind.i64 x67c] }, H2)) (h7 : callInf cfg 23 [Value.string x2, Value.string x3] (List.length H) H2 = some (Value.bool x73, H2)) (h8 : callInf cfg 24 [Value.string x2, Value.string x3] (List.length H) H2 = some (Value.bool x76, H2)) (h9 : (x73 == x76) = true) (h10 : callInf cfg 12 [Value.slice x27aa x27an x27ac, Value.slice x34aa x34an x34ac] (List.length H) H2 = some (Value.bool x81, H2)) (h11 : x81 = true) (h12 : callInf cfg 13 [Value.int IntKind.i64 x27b] (List.length H) H2 = some (Value.int IntKind.i64 x85, H2)) (h13 : (x85 == x34b) = false) : callInf cfg 5 [.int .i64 x0, .int .i64 x1, .string x2, .string x3] prot H = some (Value.bool false, H) :=
  fn_of a5 [.r (.tuple #[.slice x27aa x27an x27ac, .int .i64 x27b]) H1, .r (.tuple #[.slice x34aa x34an x34ac, .int .i64 x34b]) H2, .v (.tuple #[.bool x42a, .int .i64 x42b]), .v (.tuple #[.bool x50a, .int .i64 x50b]), .v (.tuple #[.string x58a, .bool x58b, .int .i64 x58c]), .v (.tuple #[.string x67a, .bool x67b, .int .i64 x67c]), .v (.bool x73), .v (.bool x76), .e, .b true, .b true, .b true, .v (.bool x81), .b true, .b true, .b true, .v (.int .i64 x85), .b true, .b true, .e, .b true, .b false, .b false, .b false, .b false, .b false, .b false, .b false, .b false, .b false, .b false, .b false, .b false, .b false, .b false, .b false, .b false, .b false, .b false, .b false, .b false, .b false, .b false, .b false, .b false] (fun e => (callInf cfg 18 [Value.int IntKind.i64 x0, Value.string x2, Value.int IntKind.i64 x1] (List.length H) H = some (Value.tuple { toList := [Value.slice x27aa x27an x27ac, Value.int IntKind.i64 x27b] }, H1)) ∧ (callInf cfg 19 [Value.int IntKind.i64 x0, Value.string x2, Value.int IntKind.i64 x1] (List.length H) H1 = some (Value.tuple { toList := [Value.slice x34aa x34an x34ac, Value.int IntKind.i64 x34b] }, H2)) ∧ (callInf cfg 16 [Value.int IntKind.i64 x0, Value.int IntKind.i64 x1, Value.string x2, Value.string x3] (List.length H) H2 = some (Value.tuple { toList := [Value.bool x42a, Value.int IntKind.i64 x42b] }, H2)) ∧ (callInf cfg 20 [Value.int IntKind.i64 x0, Value.int IntKind.i64 x1, Value.string x2, Value.string x3] (List.length H) H2 = some (Value.tuple { toList := [Value.bool x50a, Value.int IntKind.i64 x50b] }, H2)) ∧ (callInf cfg 21 [Value.int IntKind.i64 x0, Value.int IntKind.i64 x1, Value.string x2, Value.string x3] (List.length H) H2 = some (Value.tuple { toList := [Value.string x58a, Value.bool x58b, Value.int IntKind.i64 x58c] }, H2)) ∧ (callInf cfg 22 [Value.int IntKind.i64 x0, Value.int IntKind.i64 x1, Value.string x2, Value.string x3] (List.length H) H2 = some (Value.tuple { toList := [Value.string x67a, Value.bool x67b, Value.int IntKind.i64 x67c] }, H2)) ∧ (callInf cfg 23 [Value.string x2, Value.string x3] (List.length H) H2 = some (Value.bool x73, H2)) ∧ (callInf cfg 24 [Value.string x2, Value.string x3] (List.length H) H2 = some (Value.bool x76, H2)) ∧ ((x73 == x76) = true) ∧ ((x73 == x76) = true) ∧ ((x73 == x76) = true) ∧ (callInf cfg 12 [Value.slice x27aa x27an x27ac, Value.slice x34aa x34an x34ac] (List.length H) H2 = some (Value.bool x81, H2)) ∧ ((x73 == x76) = true) ∧ (x81 = true) ∧ (x81 = true) ∧ (callInf cfg 13 [Value.int IntKind.i64 x27b] (List.length H) H2 = some (Value.int IntKind.i64 x85, H2)) ∧ (x81 = true) ∧ (x81 = true) ∧ (x81 = true) ∧ ((x85 == x34b) = false) ∧ ((x85 == x34b) = false) ∧ ((x85 == x34b) = false) ∧ ((x85 == x34b) = false) ∧ (false = false) ∧ (false = false) ∧ (false = false) ∧ (false = false) ∧ (false = false) ∧ (false = false) ∧ (false = false) ∧ (false = false) ∧ (false = false) ∧ (false = false) ∧ (false = false) ∧ (false = false) ∧ (false = false) ∧ (false = false) ∧ (false = false) ∧ (false = false) ∧ (false = false) ∧ (false = false) ∧ (false = false) ∧ (false = false) ∧ e) (by kernel_rfl) ⟨h1, h2, h3, h4, h5, h6, h7, h8, h9, h9, h9, h10, h9, h11, h11, h12, h11, h11, h11, h13, h13, h13, h13, rfl, rfl, rfl, rfl, rfl, rfl, rfl, rfl, rfl, rfl, rfl, rfl, rfl, rfl, rfl, rfl, rfl, rfl, rfl, rfl, rfl⟩ rfl
theorem f5_F_7 (x0 : Int) (x1 : Int) (x2 : ByteArray) (x3 : ByteArray) (H : AHeap) (prot : Nat) (x27aa : Option Addr) (x27an : Nat) (x27ac : Nat) (x27b : Int) (H1 : AHeap) (x34aa : Option Addr) (x34an : Nat) (x34ac : Nat) (x34b : Int) (H2 : AHeap) (x42a : Bool) (x42b : Int) (x50a : Bool) (x50b : Int) (x58a : ByteArray) (x58b : Bool) (x58c : Int) (x67a : ByteArray) (x67b : Bool) (x67c : Int) (x73 : Bool) (x76 : Bool) (x81 : Bool) (h1 : callInf cfg 18 [Value.int IntKind.i64 x0, Value.string x2, Value.int IntKind.i64 x1] (List.length H) H = some (Value.tuple { toList := [Value.slice x27aa x27an x27ac, Value.int IntKind.i64 x27b] }, H1)) (h2 : callInf cfg 19 [Value.int IntKind.i64 x0, Value.string x2, Value.int IntKind.i64 x1] (List.length H) H1 = some (Value.tuple { toList := [Value.slice x34aa x34an x34ac, Value.int IntKind.i64 x34b] }, H2)) (h3 : callInf cfg 16 [Value.int IntKind.i64 x0, Value.int IntKind.i64 x1, Value.string x2, Value.string x3] (List.length H) H2 = some (Value.tuple { toList := [Value.bool x42a, Value.int IntKind.i64 x42b] }, H2)) (h4 : callInf cfg 20 [Value.int IntKind.i64 x0, Value.int IntKind.i64 x1, Value.string x2, Value.string x3] (List.length H) H2 = some (Value.tuple { toList := [Value.bool x50a, Value.int IntKind.i64 x50b] }, H2)) (h5 : callInf cfg 21 [Value.int IntKind.i64 x0, Value.int IntKind.i64 x1, Value.string x2, Value.string x3] (List.length H) H2 = some (Value.tuple { toList := [Value.string x58a, Value.bool x58b, Value.int IntKind.i64 x58c] }, H2)) (h6 : callInf cfg 22 [Value.int IntKind.i64 x0, Value.int IntKind.i64 x1, Value.string x2, Value.string x3] (List.length H) H2 = some (Value.tuple { toList := [Value.string x67a, Value.bool x67b, Value.int IntKind.i64 x67c] }, H2)) (h7 : callInf cfg 23 [Value.string x2, Value.string x3] (List.length H) H2 = some (Value.bool x73, H2)) (h8 : callInf cfg 24 [Value.string x2, Value.string x3] (List.length H) H2 = some (Value.bool x76, H2)) (h9 : (x73 == x76) = true) (h10 : callInf cfg 12 [Value.slice x27aa x27an x27ac, Value.slice x34aa x34an x34ac] (List.length H) H2 = some (Value.bool x81, H2)) (h11 : x81 = false) : callInf cfg 5 [.int .i64 x0, .int .i64 x1, .string x2, .string x3] prot H = some (Value.bool false, H) :=
  fn_of a5 [.r (.tuple #[.slice x27aa x27an x27ac, .int .i64 x27b]) H1, .r (.tuple #[.slice x34aa x34an x34ac, .int .i64 x34b]) H2, .v (.tuple #[.bool x42a, .int .i64 x42b]), .v (.tuple #[.bool x50a, .int .i64 x50b]), .v (.tuple #[.string x58a, .bool x58b, .int .i64 x58c]), .v (.tuple #[.string x67a, .bool x67b, .int .i64 x67c]), .v (.bool x73), .v (.bool x76), .e, .b true, .b true, .b true, .v (.bool x81), .b true, .b false, .b false, .b false, .b false, .b false, .b false, .b false, .b false, .b false, .b false, .b false, .b false, .b false, .b false, .b false, .b false, .b false, .b false, .b false, .b false, .b false, .b false, .b false, .b false, .b false, .b false, .b false, .b false, .b false] (fun e => (callInf cfg 18 [Value.int IntKind.i64 x0, Value.string x2, Value.int IntKind.i64 x1] (List.length H) H = some (Value.tuple { toList := [Value.slice x27aa x27an x27ac, Value.int IntKind.i64 x27b] }, H1)) ∧ (callInf cfg 19 [Value.int IntKind.i64 x0, Value.string x2, Value.int IntKind.i64 x1] (List.length H) H1 = some (Value.tuple { toList := [Value.slice x34aa x34an x34ac, Value.int IntKind.i64 x34b] }, H2)) ∧ (callInf cfg 16 [Value.int IntKind.i64 x0, Value.int IntKind.i64 x1, Value.string x2, Value.string x3] (List.length H) H2 = some (Value.tuple { toList := [Value.bool x42a, Value.int IntKind.i64 x42b] }, H2)) ∧ (callInf cfg 20 [Value.int IntKind.i64 x0, Value.int IntKind.i64 x1, Value.string x2, Value.string x3] (List.length H) H2 = some (Value.tuple { toList := [Value.bool x50a, Value.int IntKind.i64 x50b] }, H2)) ∧ (callInf cfg 21 [Value.int IntKind.i64 x0, Value.int IntKind.i64 x1, Value.string x2, Value.string x3] (List.length H) H2 = some (Value.tuple { toList := [Value.string x58a, Value.bool x58b, Value.int IntKind.i64 x58c] }, H2)) ∧ (callInf cfg 22 [Value.int IntKind.i64 x0, Value.int IntKind.i64 x1, Value.string x2, Value.string x3] (List.length H) H2 = some (Value.tuple { toList := [Value.string x67a, Value.bool x67b, Value.int IntKind.i64 x67c] }, H2)) ∧ (callInf cfg 23 [Value.string x2, Value.string x3] (List.length H) H2 = some (Value.bool x73, H2)) ∧ (callInf cfg 24 [Value.string x2, Value.string x3] (List.length H) H2 = some (Value.bool x76, H2)) ∧ ((x73 == x76) = true) ∧ ((x73 == x76) = true) ∧ ((x73 == x76) = true) ∧ (callInf cfg 12 [Value.slice x27aa x27an x27ac, Value.slice x34aa x34an x34ac] (List.length H) H2 = some (Value.bool x81, H2)) ∧ ((x73 == x76) = true) ∧ (x81 = false) ∧ (x81 = false) ∧ (x81 = false) ∧ (x81 = false) ∧ (x81 = false) ∧ (false = false) ∧ (false = false) ∧ (false = false) ∧ (false = false) ∧ (false = false) ∧ (false = false) ∧ (false = false) ∧ (false = false) ∧ (false = false) ∧ (false = false) ∧ (false = false) ∧ (false = false) ∧ (false = false) ∧ (false = false) ∧ (false = false) ∧ (false = false) ∧ (false = false) ∧ (false = false) ∧ (false = false) ∧ (false = false) ∧ (false = false) ∧ (false = false) ∧ (false = false) ∧ (false = false) ∧ e) (by kernel_rfl) ⟨h1, h2, h3, h4, h5, h6, h7, h8, h9, h9, h9, h10, h9, h11, h11, h11, h11, h11, rfl, rfl, rfl, rfl, rfl, rfl, rfl, rfl, rfl, rfl, rfl, rfl, rfl, rfl, rfl, rfl, rfl, rfl, rfl, rfl, rfl, rfl, rfl, rfl, rfl⟩ rfl
theorem f5_F_8 (x0 : Int) (x1 : Int) (x2 : ByteArray) (x3 : ByteArray) (H : AHeap) (prot : Nat) (x27aa : Option Addr) (x27an : Nat) (x27ac : Nat) (x27b : Int) (H1 : AHeap) (x34aa : Option Addr) (x34an : Nat) (x34ac : Nat) (x34b : Int) (H2 : AHeap) (x42a : Bool) (x42b : Int) (x50a : Bool) (x50b : Int) (x58a : ByteArray) (x58b : Bool) (x58c : Int) (x67a : ByteArray) (x67b : Bool) (x67c : Int) (x73 : Bool) (x76 : Bool) (h1 : callInf cfg 18 [Value.int IntKind.i64 x0, Value.string x2, Value.int IntKind.i64 x1] (List.length H) H = some (Value.tuple { toList := [Value.slice x27aa x27an x27ac, Value.int IntKind.i64 x27b] }, H1)) (h2 : callInf cfg 19 [Value.int IntKind.i64 x0, Value.string x2, Value.int IntKind.i64 x1] (List.length H) H1 = some (Value.tuple { toList := [Value.slice x34aa x34an x34ac, Value.int IntKind.i64 x34b] }, H2)) (h3 : callInf cfg 16 [Value.int IntKind.i64 x0, Value.int IntKind.i64 x1, Value.string x2, Value.string x3] (List.length H) H2 = some (Value.tuple { toList := [Value.bool x42a, Value.int IntKind.i64 x42b] }, H2)) (h4 : callInf cfg 20 [Value.int IntKind.i64 x0, Value.int IntKind.i64 x1, Value.string x2, Value.string x3] (List.length H) H2 = some (Value.tuple { toList := [Value.bool x50a, Value.int IntKind.i64 x50b] }, H2)) (h5 : callInf cfg 21 [Value.int IntKind.i64 x0, Value.int IntKind.i64 x1, Value.string x2, Value.string x3] (List.length H) H2 = some (Value.tuple { toList := [Value.string x58a, Value.bool x58b, Value.int IntKind.i64 x58c] }, H2)) (h6 : callInf cfg 22 [Value.int IntKind.i64 x0, Value.int IntKind.i64 x1, Value.string x2, Value.string x3] (List.length H) H2 = some (Value.tuple { toList := [Value.string x67a, Value.bool x67b, Value.int IntKind.i64 x67c] }, H2)) (h7 : callInf cfg 23 [Value.string x2, Value.string x3] (List.length H) H2 = some (Value.bool x73, H2)) (h8 : callInf cfg 24 [Value.string x2, Value.string x3] (List.length H) H2 = some (Value.bool x76, H2)) (h9 : (x73 == x76) = false) : callInf cfg 5 [.int .i64 x0, .int .i64 x1, .string x2, .string x3] prot H = some (Value.bool false, H) :=
  fn_of a5 [.r (.tuple #[.slice x27aa x27an x27ac, .int .i64 x27b]) H1, .r (.tuple #[.slice x34aa x34an x34ac, .int .i64 x34b]) H2, .v (.tuple #[.bool x42a, .int .i64 x42b]), .v (.tuple #[.bool x50a, .int .i64 x50b]), .v (.tuple #[.string x58a, .bool x58b, .int .i64 x58c]), .v (.tuple #[.string x67a, .bool x67b, .int .i64 x67c]), .v (.bool x73), .v (.bool x76), .e, .b false, .b false, .b false, .b false, .b false, .b false, .b false, .b false, .b false, .b false, .b false, .b false, .b false, .b false, .b false, .b false, .b false, .b false, .b false, .b false, .b false, .b false, .b false, .b false, .b false, .b false, .b false, .b false, .b false, .b false, .b false, .b false, .b false] (fun e => (callInf cfg 18 [Value.int IntKind.i64 x0, Value.string x2, Value.int IntKind.i64 x1] (List.length H) H = some (Value.tuple { toList := [Value.slice x27aa x27an x27ac, Value.int IntKind.i64 x27b] }, H1)) ∧ (callInf cfg 19 [Value.int IntKind.i64 x0, Value.string x2, Value.int IntKind.i64 x1] (List.length H) H1 = some (Value.tuple { toList := [Value.slice x34aa x34an x34ac, Value.int IntKind.i64 x34b] }, H2)) ∧ (callInf cfg 16 [Value.int IntKind.i64 x0, Value.int IntKind.i64 x1, Value.string x2, Value.string x3] (List.length H) H2 = some (Value.tuple { toList := [Value.bool x42a, Value.int IntKind.i64 x42b] }, H2)) ∧ (callInf cfg 20 [Value.int IntKind.i64 x0, Value.int IntKind.i64 x1, Value.string x2, Value.string x3] (List.length H) H2 = some (Value.tuple { toList := [Value.bool x50a, Value.int IntKind.i64 x50b] }, H2)) ∧ (callInf cfg 21 [Value.int IntKind.i64 x0, Value.int IntKind.i64 x1, Value.string x2, Value.string x3] (List.length H) H2 = some (Value.tuple { toList := [Value.string x58a, Value.bool x58b, Value.int IntKind.i64 x58c] }, H2)) ∧ (callInf cfg 22 [Value.int IntKind.i64 x0, Value.int IntKind.i64 x1, Value.string x2, Value.string x3] (List.length H) H2 = some (Value.tuple { toList := [Value.string x67a, Value.bool x67b, Value.int IntKind.i64 x67c] }, H2)) ∧ (callInf cfg 23 [Value.string x2, Value.string x3] (List.length H) H2 = some (Value.bool x73, H2)) ∧ (callInf cfg 24 [Value.string x2, Value.string x3] (List.length H) H2 = some (Value.bool x76, H2)) ∧ ((x73 == x76) = false) ∧ ((x73 == x76) = false) ∧ ((x73 == x76) = false) ∧ ((x73 == x76) = false) ∧ (false = false) ∧ (false = false) ∧ (false = false) ∧ (false = false) ∧ (false = false) ∧ (false = false) ∧ (false = false) ∧ (false = false) ∧ (false = false) ∧ (false = false) ∧ (false = false) ∧ (false = false) ∧ (false = false) ∧ (false = false) ∧ (false = false) ∧ (false = false) ∧ (false = false) ∧ (false = false) ∧ (false = false) ∧ (false = false) ∧ (false = false) ∧ (false = false) ∧ (false = false) ∧ (false = false) ∧ (false = false) ∧ (false = false) ∧ (false = false) ∧ (false = false) ∧ (false = false) ∧ e) (by kernel_rfl) ⟨h1, h2, h3, h4, h5, h6, h7, h8, h9, h9, h9, h9, rfl, rfl, rfl, rfl, rfl, rfl, rfl, rfl, rfl, rfl, rfl, rfl, rfl, rfl, rfl, rfl, rfl, rfl, rfl, rfl, rfl, rfl, rfl, rfl, rfl, rfl, rfl, rfl, rfl, rfl⟩ rfl
end Go.Proofs.Ytedfombojnfbiaa.Am24
set_option linter.unusedVariables false
open Go Go.Proofs.Ytedfombojnfbiaa.Am
namespace Go.Proofs.Ytedfombojnfbiaa.Am24
theorem f13_F_0 (x0 : Int) (H : AHeap) (prot : Nat)  : callInf cfg 13 [.int .i64 x0] prot H = some (Value.int IntKind.i64 x0, H) :=
  fn_of a13 [] (fun e => e) (by kernel_rfl) rfl rfl
end Go.Proofs.Ytedfombojnfbiaa.Am24
namespace Go.Proofs.Ytedfombojnfbiaa.Am24
open Go Go.Proofs.Ytedfombojnfbiaa.Am

theorem cLive (prot : Nat) (H : AHeap) : callInf cfg 14 [] prot H = some (.bool true, H) := by
  refine callInf_body ?_
  unfold callWith
  have h : cfg.code 14 = some a14 := rfl
  rw [h]
  rfl

theorem pcsV_len (k n : Int) (w : ByteArray) : (pcsV k n w).1.length ≤ 100000 := by
  unfold pcsV
  split
  · rename_i h
    obtain ⟨a1, a2, a3, a4, _⟩ := pchk_ok h
    have := pcs_len k.toNat w (sho k.toNat (n.toNat + 1)) 0
    have := sho_room (k := k.toNat) (n := n.toNat) (by omega) (by omega)
    have := sho_succ k.toNat n.toNat
    simp only
    omega
  · simp

theorem law5 (k n : Int) (u v : ByteArray) (hu : u.size < 9223372036854775807) (hv : v.size < 9223372036854775807) (prot : Nat) (H : AHeap) :
    callInf cfg 5 [.int .i64 k, .int .i64 n, .string u, .string v] prot H = some (.bool true, H) := by
  obtain ⟨a1, n1, c1, o1, H1, p1, p2, p3, p4⟩ := c18 k n u hu H.length H
  obtain ⟨a2, n2, c2, o2, H2, q1, q2, q3, q4⟩ := c19 k n u hu H.length H1
  have hlen : (pcsV k n u).1.length = n1 := by have := p2.1; simpa [sc] using this
  have hs := c12 H.length H2 (by have := pcsV_len k n u; omega) (p2.stay q3 (fun _ _ h => by cases h)) q2
  rw [decide_eq_true rfl] at hs
  exact f5_F_0 k n u v H prot a1 n1 c1 _ H1 a2 n2 c2 _ H2 _ _ _ _ _ _ _ _ _ _ _ _ _ _ _ _ _ p1 q1 (c16 k n u v hu hv _ _) (c20 k n u v hu hv _ _) (c21 k n u v hu hv _ _) (c22 k n u v hu hv _ _)
    (c23 u v hu hv _ _) (c24 u v hu hv _ _) (by simp) hs rfl (f13_F_0 _ _ _) (by simp) (by simp) (f13_F_0 _ _ _) (by simp) (by simp) (by simp) (f13_F_0 _ _ _) (by simp) (cLive _ _)
end Go.Proofs.Ytedfombojnfbiaa.Am24
set_option linter.unusedVariables false
open Go Go.Proofs.Ytedfombojnfbiaa.Am
namespace Go.Proofs.Ytedfombojnfbiaa.Am24
theorem f3_F_0 (x0 : Int) (x1 : Int) (x2 : ByteArray) (H : AHeap) (prot : Nat) (x21aa : Option Addr) (x21an : Nat) (x21ac : Nat) (x21b : Int) (H1 : AHeap) (x27aa : Option Addr) (x27an : Nat) (x27ac : Nat) (x27b : Int) (H2 : AHeap) (x34a : ByteArray) (x34b : Int) (x41a : ByteArray) (x41b : Int) (x46 : Bool) (x50 : Int) (h1 : callInf cfg 8 [Value.int IntKind.i64 x0, Value.int IntKind.i64 x1] (List.length H) H = some (Value.tuple { toList := [Value.slice x21aa x21an x21ac, Value.int IntKind.i64 x21b] }, H1)) (h2 : callInf cfg 9 [Value.int IntKind.i64 x0, Value.int IntKind.i64 x1] (List.length H) H1 = some (Value.tuple { toList := [Value.slice x27aa x27an x27ac, Value.int IntKind.i64 x27b] }, H2)) (h3 : callInf cfg 10 [Value.int IntKind.i64 x0, Value.int IntKind.i64 x1, Value.string x2] (List.length H) H2 = some (Value.tuple { toList := [Value.string x34a, Value.int IntKind.i64 x34b] }, H2)) (h4 : callInf cfg 11 [Value.int IntKind.i64 x0, Value.int IntKind.i64 x1, Value.string x2] (List.length H) H2 = some (Value.tuple { toList := [Value.string x41a, Value.int IntKind.i64 x41b] }, H2)) (h5 : callInf cfg 12 [Value.slice x21aa x21an x21ac, Value.slice x27aa x27an x27ac] (List.length H) H2 = some (Value.bool x46, H2)) (h6 : (!x46) = false) (h7 : callInf cfg 13 [Value.int IntKind.i64 x21b] (List.length H) H2 = some (Value.int IntKind.i64 x50, H2)) (h8 : (x50 != x27b) = true) : callInf cfg 3 [.int .i64 x0, .int .i64 x1, .string x2] prot H = some (Value.bool false, H) :=
  fn_of a3 [.r (.tuple #[.slice x21aa x21an x21ac, .int .i64 x21b]) H1, .r (.tuple #[.slice x27aa x27an x27ac, .int .i64 x27b]) H2, .v (.tuple #[.string x34a, .int .i64 x34b]), .v (.tuple #[.string x41a, .int .i64 x41b]), .v (.bool x46), .e, .b false, .b false, .v (.int .i64 x50), .b false, .b false, .e, .b false, .b true, .b true, .b true, .b true, .b true, .b true, .b true, .b true, .b true, .b true] (fun e => (callInf cfg 8 [Value.int IntKind.i64 x0, Value.int IntKind.i64 x1] (List.length H) H = some (Value.tuple { toList := [Value.slice x21aa x21an x21ac, Value.int IntKind.i64 x21b] }, H1)) ∧ (callInf cfg 9 [Value.int IntKind.i64 x0, Value.int IntKind.i64 x1] (List.length H) H1 = some (Value.tuple { toList := [Value.slice x27aa x27an x27ac, Value.int IntKind.i64 x27b] }, H2)) ∧ (callInf cfg 10 [Value.int IntKind.i64 x0, Value.int IntKind.i64 x1, Value.string x2] (List.length H) H2 = some (Value.tuple { toList := [Value.string x34a, Value.int IntKind.i64 x34b] }, H2)) ∧ (callInf cfg 11 [Value.int IntKind.i64 x0, Value.int IntKind.i64 x1, Value.string x2] (List.length H) H2 = some (Value.tuple { toList := [Value.string x41a, Value.int IntKind.i64 x41b] }, H2)) ∧ (callInf cfg 12 [Value.slice x21aa x21an x21ac, Value.slice x27aa x27an x27ac] (List.length H) H2 = some (Value.bool x46, H2)) ∧ ((!x46) = false) ∧ ((!x46) = false) ∧ (callInf cfg 13 [Value.int IntKind.i64 x21b] (List.length H) H2 = some (Value.int IntKind.i64 x50, H2)) ∧ ((!x46) = false) ∧ ((!x46) = false) ∧ ((!x46) = false) ∧ ((x50 != x27b) = true) ∧ ((x50 != x27b) = true) ∧ ((x50 != x27b) = true) ∧ ((x50 != x27b) = true) ∧ (true = true) ∧ (true = true) ∧ (true = true) ∧ (true = true) ∧ (true = true) ∧ (true = true) ∧ e) (by kernel_rfl) ⟨h1, h2, h3, h4, h5, h6, h6, h7, h6, h6, h6, h8, h8, h8, h8, rfl, rfl, rfl, rfl, rfl, rfl, rfl⟩ rfl
theorem f3_F_1 (x0 : Int) (x1 : Int) (x2 : ByteArray) (H : AHeap) (prot : Nat) (x21aa : Option Addr) (x21an : Nat) (x21ac : Nat) (x21b : Int) (H1 : AHeap) (x27aa : Option Addr) (x27an : Nat) (x27ac : Nat) (x27b : Int) (H2 : AHeap) (x34a : ByteArray) (x34b : Int) (x41a : ByteArray) (x41b : Int) (x46 : Bool) (x50 : Int) (h1 : callInf cfg 8 [Value.int IntKind.i64 x0, Value.int IntKind.i64 x1] (List.length H) H = some (Value.tuple { toList := [Value.slice x21aa x21an x21ac, Value.int IntKind.i64 x21b] }, H1)) (h2 : callInf cfg 9 [Value.int IntKind.i64 x0, Value.int IntKind.i64 x1] (List.length H) H1 = some (Value.tuple { toList := [Value.slice x27aa x27an x27ac, Value.int IntKind.i64 x27b] }, H2)) (h3 : callInf cfg 10 [Value.int IntKind.i64 x0, Value.int IntKind.i64 x1, Value.string x2] (List.length H) H2 = some (Value.tuple { toList := [Value.string x34a, Value.int IntKind.i64 x34b] }, H2)) (h4 : callInf cfg 11 [Value.int IntKind.i64 x0, Value.int IntKind.i64 x1, Value.string x2] (List.length H) H2 = some (Value.tuple { toList := [Value.string x41a, Value.int IntKind.i64 x41b] }, H2)) (h5 : callInf cfg 12 [Value.slice x21aa x21an x21ac, Value.slice x27aa x27an x27ac] (List.length H) H2 = some (Value.bool x46, H2)) (h6 : (!x46) = false) (h7 : callInf cfg 13 [Value.int IntKind.i64 x21b] (List.length H) H2 = some (Value.int IntKind.i64 x50, H2)) (h8 : (x50 != x27b) = false) (h9 : (!x34a.toList == x41a.toList) = true) : callInf cfg 3 [.int .i64 x0, .int .i64 x1, .string x2] prot H = some (Value.bool false, H) :=
  fn_of a3 [.r (.tuple #[.slice x21aa x21an x21ac, .int .i64 x21b]) H1, .r (.tuple #[.slice x27aa x27an x27ac, .int .i64 x27b]) H2, .v (.tuple #[.string x34a, .int .i64 x34b]), .v (.tuple #[.string x41a, .int .i64 x41b]), .v (.bool x46), .e, .b false, .b false, .v (.int .i64 x50), .b false, .b false, .e, .b false, .b false, .b false, .b false, .e, .b false, .b true, .b true, .b true, .b true, .b true, .b true] (fun e => (callInf cfg 8 [Value.int IntKind.i64 x0, Value.int IntKind.i64 x1] (List.length H) H = some (Value.tuple { toList := [Value.slice x21aa x21an x21ac, Value.int IntKind.i64 x21b] }, H1)) ∧ (callInf cfg 9 [Value.int IntKind.i64 x0, Value.int IntKind.i64 x1] (List.length H) H1 = some (Value.tuple { toList := [Value.slice x27aa x27an x27ac, Value.int IntKind.i64 x27b] }, H2)) ∧ (callInf cfg 10 [Value.int IntKind.i64 x0, Value.int IntKind.i64 x1, Value.string x2] (List.length H) H2 = some (Value.tuple { toList := [Value.string x34a, Value.int IntKind.i64 x34b] }, H2)) ∧ (callInf cfg 11 [Value.int IntKind.i64 x0, Value.int IntKind.i64 x1, Value.string x2] (List.length H) H2 = some (Value.tuple { toList := [Value.string x41a, Value.int IntKind.i64 x41b] }, H2)) ∧ (callInf cfg 12 [Value.slice x21aa x21an x21ac, Value.slice x27aa x27an x27ac] (List.length H) H2 = some (Value.bool x46, H2)) ∧ ((!x46) = false) ∧ ((!x46) = false) ∧ (callInf cfg 13 [Value.int IntKind.i64 x21b] (List.length H) H2 = some (Value.int IntKind.i64 x50, H2)) ∧ ((!x46) = false) ∧ ((!x46) = false) ∧ ((!x46) = false) ∧ ((x50 != x27b) = false) ∧ ((x50 != x27b) = false) ∧ ((x50 != x27b) = false) ∧ ((x50 != x27b) = false) ∧ ((!x34a.toList == x41a.toList) = true) ∧ ((!x34a.toList == x41a.toList) = true) ∧ ((!x34a.toList == x41a.toList) = true) ∧ ((!x34a.toList == x41a.toList) = true) ∧ ((!x34a.toList == x41a.toList) = true) ∧ (true = true) ∧ e) (by kernel_rfl) ⟨h1, h2, h3, h4, h5, h6, h6, h7, h6, h6, h6, h8, h8, h8, h8, h9, h9, h9, h9, h9, rfl, rfl⟩ rfl
theorem f3_F_2 (x0 : Int) (x1 : Int) (x2 : ByteArray) (H : AHeap) (prot : Nat) (x21aa : Option Addr) (x21an : Nat) (x21ac : Nat) (x21b : Int) (H1 : AHeap) (x27aa : Option Addr) (x27an : Nat) (x27ac : Nat) (x27b : Int) (H2 : AHeap) (x34a : ByteArray) (x34b : Int) (x41a : ByteArray) (x41b : Int) (x46 : Bool) (x50 : Int) (x61 : Int) (h1 : callInf cfg 8 [Value.int IntKind.i64 x0, Value.int IntKind.i64 x1] (List.length H) H = some (Value.tuple { toList := [Value.slice x21aa x21an x21ac, Value.int IntKind.i64 x21b] }, H1)) (h2 : callInf cfg 9 [Value.int IntKind.i64 x0, Value.int IntKind.i64 x1] (List.length H) H1 = some (Value.tuple { toList := [Value.slice x27aa x27an x27ac, Value.int IntKind.i64 x27b] }, H2)) (h3 : callInf cfg 10 [Value.int IntKind.i64 x0, Value.int IntKind.i64 x1, Value.string x2] (List.length H) H2 = some (Value.tuple { toList := [Value.string x34a, Value.int IntKind.i64 x34b] }, H2)) (h4 : callInf cfg 11 [Value.int IntKind.i64 x0, Value.int IntKind.i64 x1, Value.string x2] (List.length H) H2 = some (Value.tuple { toList := [Value.string x41a, Value.int IntKind.i64 x41b] }, H2)) (h5 : callInf cfg 12 [Value.slice x21aa x21an x21ac, Value.slice x27aa x27an x27ac] (List.length H) H2 = some (Value.bool x46, H2)) (h6 : (!x46) = false) (h7 : callInf cfg 13 [Value.int IntKind.i64 x21b] (List.length H) H2 = some (Value.int IntKind.i64 x50, H2)) (h8 : (x50 != x27b) = false) (h9 : (!x34a.toList == x41a.toList) = false) (h10 : callInf cfg 13 [Value.int IntKind.i64 x34b] (List.length H) H2 = some (Value.int IntKind.i64 x61, H2)) (h11 : (x61 != x41b) = true) : callInf cfg 3 [.int .i64 x0, .int .i64 x1, .string x2] prot H = some (Value.bool false, H) :=
  fn_of a3 [.r (.tuple #[.slice x21aa x21an x21ac, .int .i64 x21b]) H1, .r (.tuple #[.slice x27aa x27an x27ac, .int .i64 x27b]) H2, .v (.tuple #[.string x34a, .int .i64 x34b]), .v (.tuple #[.string x41a, .int .i64 x41b]), .v (.bool x46), .e, .b false, .b false, .v (.int .i64 x50), .b false, .b false, .e, .b false, .b false, .b false, .b false, .e, .b false, .b false, .b false, .v (.int .i64 x61), .b false, .b false, .e, .b false, .b true] (fun e => (callInf cfg 8 [Value.int IntKind.i64 x0, Value.int IntKind.i64 x1] (List.length H) H = some (Value.tuple { toList := [Value.slice x21aa x21an x21ac, Value.int IntKind.i64 x21b] }, H1)) ∧ (callInf cfg 9 [Value.int IntKind.i64 x0, Value.int IntKind.i64 x1] (List.length H) H1 = some (Value.tuple { toList := [Value.slice x27aa x27an x27ac, Value.int IntKind.i64 x27b] }, H2)) ∧ (callInf cfg 10 [Value.int IntKind.i64 x0, Value.int IntKind.i64 x1, Value.string x2] (List.length H) H2 = some (Value.tuple { toList := [Value.string x34a, Value.int IntKind.i64 x34b] }, H2)) ∧ (callInf cfg 11 [Value.int IntKind.i64 x0, Value.int IntKind.i64 x1, Value.string x2] (List.length H) H2 = some (Value.tuple { toList := [Value.string x41a, Value.int IntKind.i64 x41b] }, H2)) ∧ (callInf cfg 12 [Value.slice x21aa x21an x21ac, Value.slice x27aa x27an x27ac] (List.length H) H2 = some (Value.bool x46, H2)) ∧ ((!x46) = false) ∧ ((!x46) = false) ∧ (callInf cfg 13 [Value.int IntKind.i64 x21b] (List.length H) H2 = some (Value.int IntKind.i64 x50, H2)) ∧ ((!x46) = false) ∧ ((!x46) = false) ∧ ((!x46) = false) ∧ ((x50 != x27b) = false) ∧ ((x50 != x27b) = false) ∧ ((x50 != x27b) = false) ∧ ((x50 != x27b) = false) ∧ ((!x34a.toList == x41a.toList) = false) ∧ ((!x34a.toList == x41a.toList) = false) ∧ (callInf cfg 13 [Value.int IntKind.i64 x34b] (List.length H) H2 = some (Value.int IntKind.i64 x61, H2)) ∧ ((!x34a.toList == x41a.toList) = false) ∧ ((!x34a.toList == x41a.toList) = false) ∧ ((!x34a.toList == x41a.toList) = false) ∧ ((x61 != x41b) = true) ∧ e) (by kernel_rfl) ⟨h1, h2, h3, h4, h5, h6, h6, h7, h6, h6, h6, h8, h8, h8, h8, h9, h9, h10, h9, h9, h9, h11, rfl⟩ rfl
theorem f3_F_3 (x0 : Int) (x1 : Int) (x2 : ByteArray) (H : AHeap) (prot : Nat) (x21aa : Option Addr) (x21an : Nat) (x21ac : Nat) (x21b : Int) (H1 : AHeap) (x27aa : Option Addr) (x27an : Nat) (x27ac : Nat) (x27b : Int) (H2 : AHeap) (x34a : ByteArray) (x34b : Int) (x41a : ByteArray) (x41b : Int) (x46 : Bool) (x50 : Int) (x61 : Int) (z0 : Int) (z1 : Int) (z9a : Option Addr) (z9n : Nat) (z9c : Nat) (H3 : AHeap) (x77aa : Option Addr) (x77an : Nat) (x77ac : Nat) (x77b : Int) (H4 : AHeap) (x82 : Bool) (x84 : Bool) (h1 : callInf cfg 8 [Value.int IntKind.i64 x0, Value.int IntKind.i64 x1] (List.length H) H = some (Value.tuple { toList := [Value.slice x21aa x21an x21ac, Value.int IntKind.i64 x21b] }, H1)) (h2 : callInf cfg 9 [Value.int IntKind.i64 x0, Value.int IntKind.i64 x1] (List.length H) H1 = some (Value.tuple { toList := [Value.slice x27aa x27an x27ac, Value.int IntKind.i64 x27b] }, H2)) (h3 : callInf cfg 10 [Value.int IntKind.i64 x0, Value.int IntKind.i64 x1, Value.string x2] (List.length H) H2 = some (Value.tuple { toList := [Value.string x34a, Value.int IntKind.i64 x34b] }, H2)) (h4 : callInf cfg 11 [Value.int IntKind.i64 x0, Value.int IntKind.i64 x1, Value.string x2] (List.length H) H2 = some (Value.tuple { toList := [Value.string x41a, Value.int IntKind.i64 x41b] }, H2)) (h5 : callInf cfg 12 [Value.slice x21aa x21an x21ac, Value.slice x27aa x27an x27ac] (List.length H) H2 = some (Value.bool x46, H2)) (h6 : (!x46) = false) (h7 : callInf cfg 13 [Value.int IntKind.i64 x21b] (List.length H) H2 = some (Value.int IntKind.i64 x50, H2)) (h8 : (x50 != x27b) = false) (h9 : (!x34a.toList == x41a.toList) = false) (h10 : callInf cfg 13 [Value.int IntKind.i64 x34b] (List.length H) H2 = some (Value.int IntKind.i64 x61, H2)) (h11 : (x61 != x41b) = false) (h12 : lpInf (lpOf cfg a3 0 prot H) ([Value.int IntKind.i64 x0, Value.int IntKind.i64 x1, Value.slice x21aa x21an x21ac, Value.slice x27aa x27an x27ac, Value.int IntKind.i64 0], H2) = some (Ex.exit 0, [Value.int IntKind.i64 z0, Value.int IntKind.i64 z1, Value.slice z9a z9n z9c], H3)) (h13 : callInf cfg 8 [Value.int IntKind.i64 z0, Value.int IntKind.i64 z1] (List.length H) H3 = some (Value.tuple { toList := [Value.slice x77aa x77an x77ac, Value.int IntKind.i64 x77b] }, H4)) (h14 : callInf cfg 12 [Value.slice x77aa x77an x77ac, Value.slice z9a z9n z9c] (List.length H) H4 = some (Value.bool x82, H4)) (h15 : x82 = true) (h16 : callInf cfg 14 [] (List.length H) H4 = some (Value.bool x84, H4)) : callInf cfg 3 [.int .i64 x0, .int .i64 x1, .string x2] prot H = some (Value.bool x84, H) :=
  fn_of a3 [.r (.tuple #[.slice x21aa x21an x21ac, .int .i64 x21b]) H1, .r (.tuple #[.slice x27aa x27an x27ac, .int .i64 x27b]) H2, .v (.tuple #[.string x34a, .int .i64 x34b]), .v (.tuple #[.string x41a, .int .i64 x41b]), .v (.bool x46), .e, .b false, .b false, .v (.int .i64 x50), .b false, .b false, .e, .b false, .b false, .b false, .b false, .e, .b false, .b false, .b false, .v (.int .i64 x61), .b false, .b false, .e, .b false, .b false, .lo (.exit 0, [.int .i64 z0, .int .i64 z1, .slice z9a z9n z9c], H3), .r (.tuple #[.slice x77aa x77an x77ac, .int .i64 x77b]) H4, .v (.bool x82), .b true, .v (.bool x84), .b true] (fun e => (callInf cfg 8 [Value.int IntKind.i64 x0, Value.int IntKind.i64 x1] (List.length H) H = some (Value.tuple { toList := [Value.slice x21aa x21an x21ac, Value.int IntKind.i64 x21b] }, H1)) ∧ (callInf cfg 9 [Value.int IntKind.i64 x0, Value.int IntKind.i64 x1] (List.length H) H1 = some (Value.tuple { toList := [Value.slice x27aa x27an x27ac, Value.int IntKind.i64 x27b] }, H2)) ∧ (callInf cfg 10 [Value.int IntKind.i64 x0, Value.int IntKind.i64 x1, Value.string x2] (List.length H) H2 = some (Value.tuple { toList := [Value.string x34a, Value.int IntKind.i64 x34b] }, H2)) ∧ (callInf cfg 11 [Value.int IntKind.i64 x0, Value.int IntKind.i64 x1, Value.string x2] (List.length H) H2 = some (Value.tuple { toList := [Value.string x41a, Value.int IntKind.i64 x41b] }, H2)) ∧ (callInf cfg 12 [Value.slice x21aa x21an x21ac, Value.slice x27aa x27an x27ac] (List.length H) H2 = some (Value.bool x46, H2)) ∧ ((!x46) = false) ∧ ((!x46) = false) ∧ (callInf cfg 13 [Value.int IntKind.i64 x21b] (List.length H) H2 = some (Value.int IntKind.i64 x50, H2)) ∧ ((!x46) = false) ∧ ((!x46) = false) ∧ ((!x46) = false) ∧ ((x50 != x27b) = false) ∧ ((x50 != x27b) = false) ∧ ((x50 != x27b) = false) ∧ ((x50 != x27b) = false) ∧ ((!x34a.toList == x41a.toList) = false) ∧ ((!x34a.toList == x41a.toList) = false) ∧ (callInf cfg 13 [Value.int IntKind.i64 x34b] (List.length H) H2 = some (Value.int IntKind.i64 x61, H2)) ∧ ((!x34a.toList == x41a.toList) = false) ∧ ((!x34a.toList == x41a.toList) = false) ∧ ((!x34a.toList == x41a.toList) = false) ∧ ((x61 != x41b) = false) ∧ (lpInf (lpOf cfg a3 0 prot H) ([Value.int IntKind.i64 x0, Value.int IntKind.i64 x1, Value.slice x21aa x21an x21ac, Value.slice x27aa x27an x27ac, Value.int IntKind.i64 0], H2) = some (Ex.exit 0, [Value.int IntKind.i64 z0, Value.int IntKind.i64 z1, Value.slice z9a z9n z9c], H3)) ∧ (callInf cfg 8 [Value.int IntKind.i64 z0, Value.int IntKind.i64 z1] (List.length H) H3 = some (Value.tuple { toList := [Value.slice x77aa x77an x77ac, Value.int IntKind.i64 x77b] }, H4)) ∧ (callInf cfg 12 [Value.slice x77aa x77an x77ac, Value.slice z9a z9n z9c] (List.length H) H4 = some (Value.bool x82, H4)) ∧ (x82 = true) ∧ (callInf cfg 14 [] (List.length H) H4 = some (Value.bool x84, H4)) ∧ (x82 = true) ∧ e) (by kernel_rfl) ⟨h1, h2, h3, h4, h5, h6, h6, h7, h6, h6, h6, h8, h8, h8, h8, h9, h9, h10, h9, h9, h9, h11, h12, h13, h14, h15, h16, h15, rfl⟩ rfl
theorem f3_F_4 (x0 : Int) (x1 : Int) (x2 : ByteArray) (H : AHeap) (prot : Nat) (x21aa : Option Addr) (x21an : Nat) (x21ac : Nat) (x21b : Int) (H1 : AHeap) (x27aa : Option Addr) (x27an : Nat) (x27ac : Nat) (x27b : Int) (H2 : AHeap) (x34a : ByteArray) (x34b : Int) (x41a : ByteArray) (x41b : Int) (x46 : Bool) (x50 : Int) (x61 : Int) (z0 : Int) (z1 : Int) (z9a : Option Addr) (z9n : Nat) (z9c : Nat) (H3 : AHeap) (x77aa : Option Addr) (x77an : Nat) (x77ac : Nat) (x77b : Int) (H4 : AHeap) (x82 : Bool) (h1 : callInf cfg 8 [Value.int IntKind.i64 x0, Value.int IntKind.i64 x1] (List.length H) H = some (Value.tuple { toList := [Value.slice x21aa x21an x21ac, Value.int IntKind.i64 x21b] }, H1)) (h2 : callInf cfg 9 [Value.int IntKind.i64 x0, Value.int IntKind.i64 x1] (List.length H) H1 = some (Value.tuple { toList := [Value.slice x27aa x27an x27ac, Value.int IntKind.i64 x27b] }, H2)) (h3 : callInf cfg 10 [Value.int IntKind.i64 x0, Value.int IntKind.i64 x1, Value.string x2] (List.length H) H2 = some (Value.tuple { toList := [Value.string x34a, Value.int IntKind.i64 x34b] }, H2)) (h4 : callInf cfg 11 [Value.int IntKind.i64 x0, Value.int IntKind.i64 x1, Value.string x2] (List.length H) H2 = some (Value.tuple { toList := [Value.string x41a, Value.int IntKind.i64 x41b] }, H2)) (h5 : callInf cfg 12 [Value.slice x21aa x21an x21ac, Value.slice x27aa x27an x27ac] (List.length H) H2 = some (Value.bool x46, H2)) (h6 : (!x46) = false) (h7 : callInf cfg 13 [Value.int IntKind.i64 x21b] (List.length H) H2 = some (Value.int IntKind.i64 x50, H2)) (h8 : (x50 != x27b) = false) (h9 : (!x34a.toList == x41a.toList) = false) (h10 : callInf cfg 13 [Value.int IntKind.i64 x34b] (List.length H) H2 = some (Value.int IntKind.i64 x61, H2)) (h11 : (x61 != x41b) = false) (h12 : lpInf (lpOf cfg a3 0 prot H) ([Value.int IntKind.i64 x0, Value.int IntKind.i64 x1, Value.slice x21aa x21an x21ac, Value.slice x27aa x27an x27ac, Value.int IntKind.i64 0], H2) = some (Ex.exit 0, [Value.int IntKind.i64 z0, Value.int IntKind.i64 z1, Value.slice z9a z9n z9c], H3)) (h13 : callInf cfg 8 [Value.int IntKind.i64 z0, Value.int IntKind.i64 z1] (List.length H) H3 = some (Value.tuple { toList := [Value.slice x77aa x77an x77ac, Value.int IntKind.i64 x77b] }, H4)) (h14 : callInf cfg 12 [Value.slice x77aa x77an x77ac, Value.slice z9a z9n z9c] (List.length H) H4 = some (Value.bool x82, H4)) (h15 : x82 = false) : callInf cfg 3 [.int .i64 x0, .int .i64 x1, .string x2] prot H = some (Value.bool false, H) :=
  fn_of a3 [.r (.tuple #[.slice x21aa x21an x21ac, .int .i64 x21b]) H1, .r (.tuple #[.slice x27aa x27an x27ac, .int .i64 x27b]) H2, .v (.tuple #[.string x34a, .int .i64 x34b]), .v (.tuple #[.string x41a, .int .i64 x41b]), .v (.bool x46), .e, .b false, .b false, .v (.int .i64 x50), .b false, .b false, .e, .b false, .b false, .b false, .b false, .e, .b false, .b false, .b false, .v (.int .i64 x61), .b false, .b false, .e, .b false, .b false, .lo (.exit 0, [.int .i64 z0, .int .i64 z1, .slice z9a z9n z9c], H3), .r (.tuple #[.slice x77aa x77an x77ac, .int .i64 x77b]) H4, .v (.bool x82), .b false, .b false] (fun e => (callInf cfg 8 [Value.int IntKind.i64 x0, Value.int IntKind.i64 x1] (List.length H) H = some (Value.tuple { toList := [Value.slice x21aa x21an x21ac, Value.int IntKind.i64 x21b] }, H1)) ∧ (callInf cfg 9 [Value.int IntKind.i64 x0, Value.int IntKind.i64 x1] (List.length H) H1 = some (Value.tuple { toList := [Value.slice x27aa x27an x27ac, Value.int IntKind.i64 x27b] }, H2)) ∧ (callInf cfg 10 [Value.int IntKind.i64 x0, Value.int IntKind.i64 x1, Value.string x2] (List.length H) H2 = some (Value.tuple { toList := [Value.string x34a, Value.int IntKind.i64 x34b] }, H2)) ∧ (callInf cfg 11 [Value.int IntKind.i64 x0, Value.int IntKind.i64 x1, Value.string x2] (List.length H) H2 = some (Value.tuple { toList := [Value.string x41a, Value.int IntKind.i64 x41b] }, H2)) ∧ (callInf cfg 12 [Value.slice x21aa x21an x21ac, Value.slice x27aa x27an x27ac] (List.length H) H2 = some (Value.bool x46, H2)) ∧ ((!x46) = false) ∧ ((!x46) = false) ∧ (callInf cfg 13 [Value.int IntKind.i64 x21b] (List.length H) H2 = some (Value.int IntKind.i64 x50, H2)) ∧ ((!x46) = false) ∧ ((!x46) = false) ∧ ((!x46) = false) ∧ ((x50 != x27b) = false) ∧ ((x50 != x27b) = false) ∧ ((x50 != x27b) = false) ∧ ((x50 != x27b) = false) ∧ ((!x34a.toList == x41a.toList) = false) ∧ ((!x34a.toList == x41a.toList) = false) ∧ (callInf cfg 13 [Value.int IntKind.i64 x34b] (List.length H) H2 = some (Value.int IntKind.i64 x61, H2)) ∧ ((!x34a.toList == x41a.toList) = false) ∧ ((!x34a.toList == x41a.toList) = false) ∧ ((!x34a.toList == x41a.toList) = false) ∧ ((x61 != x41b) = false) ∧ (lpInf (lpOf cfg a3 0 prot H) ([Value.int IntKind.i64 x0, Value.int IntKind.i64 x1, Value.slice x21aa x21an x21ac, Value.slice x27aa x27an x27ac, Value.int IntKind.i64 0], H2) = some (Ex.exit 0, [Value.int IntKind.i64 z0, Value.int IntKind.i64 z1, Value.slice z9a z9n z9c], H3)) ∧ (callInf cfg 8 [Value.int IntKind.i64 z0, Value.int IntKind.i64 z1] (List.length H) H3 = some (Value.tuple { toList := [Value.slice x77aa x77an x77ac, Value.int IntKind.i64 x77b] }, H4)) ∧ (callInf cfg 12 [Value.slice x77aa x77an x77ac, Value.slice z9a z9n z9c] (List.length H) H4 = some (Value.bool x82, H4)) ∧ (x82 = false) ∧ (x82 = false) ∧ e) (by kernel_rfl) ⟨h1, h2, h3, h4, h5, h6, h6, h7, h6, h6, h6, h8, h8, h8, h8, h9, h9, h10, h9, h9, h9, h11, h12, h13, h14, h15, h15, rfl⟩ rfl
theorem f3_F_5 (x0 : Int) (x1 : Int) (x2 : ByteArray) (H : AHeap) (prot : Nat) (x21aa : Option Addr) (x21an : Nat) (x21ac : Nat) (x21b : Int) (H1 : AHeap) (x27aa : Option Addr) (x27an : Nat) (x27ac : Nat) (x27b : Int) (H2 : AHeap) (x34a : ByteArray) (x34b : Int) (x41a : ByteArray) (x41b : Int) (x46 : Bool) (h1 : callInf cfg 8 [Value.int IntKind.i64 x0, Value.int IntKind.i64 x1] (List.length H) H = some (Value.tuple { toList := [Value.slice x21aa x21an x21ac, Value.int IntKind.i64 x21b] }, H1)) (h2 : callInf cfg 9 [Value.int IntKind.i64 x0, Value.int IntKind.i64 x1] (List.length H) H1 = some (Value.tuple { toList := [Value.slice x27aa x27an x27ac, Value.int IntKind.i64 x27b] }, H2)) (h3 : callInf cfg 10 [Value.int IntKind.i64 x0, Value.int IntKind.i64 x1, Value.string x2] (List.length H) H2 = some (Value.tuple { toList := [Value.string x34a, Value.int IntKind.i64 x34b] }, H2)) (h4 : callInf cfg 11 [Value.int IntKind.i64 x0, Value.int IntKind.i64 x1, Value.string x2] (List.length H) H2 = some (Value.tuple { toList := [Value.string x41a, Value.int IntKind.i64 x41b] }, H2)) (h5 : callInf cfg 12 [Value.slice x21aa x21an x21ac, Value.slice x27aa x27an x27ac] (List.length H) H2 = some (Value.bool x46, H2)) (h6 : (!x46) = true) : callInf cfg 3 [.int .i64 x0, .int .i64 x1, .string x2] prot H = some (Value.bool false, H) :=
  fn_of a3 [.r (.tuple #[.slice x21aa x21an x21ac, .int .i64 x21b]) H1, .r (.tuple #[.slice x27aa x27an x27ac, .int .i64 x27b]) H2, .v (.tuple #[.string x34a, .int .i64 x34b]), .v (.tuple #[.string x41a, .int .i64 x41b]), .v (.bool x46), .e, .b true, .b true, .b true, .b true, .b true, .b true, .b true, .b true, .b true, .b true, .b true, .b true, .b true, .b true, .b true] (fun e => (callInf cfg 8 [Value.int IntKind.i64 x0, Value.int IntKind.i64 x1] (List.length H) H = some (Value.tuple { toList := [Value.slice x21aa x21an x21ac, Value.int IntKind.i64 x21b] }, H1)) ∧ (callInf cfg 9 [Value.int IntKind.i64 x0, Value.int IntKind.i64 x1] (List.length H) H1 = some (Value.tuple { toList := [Value.slice x27aa x27an x27ac, Value.int IntKind.i64 x27b] }, H2)) ∧ (callInf cfg 10 [Value.int IntKind.i64 x0, Value.int IntKind.i64 x1, Value.string x2] (List.length H) H2 = some (Value.tuple { toList := [Value.string x34a, Value.int IntKind.i64 x34b] }, H2)) ∧ (callInf cfg 11 [Value.int IntKind.i64 x0, Value.int IntKind.i64 x1, Value.string x2] (List.length H) H2 = some (Value.tuple { toList := [Value.string x41a, Value.int IntKind.i64 x41b] }, H2)) ∧ (callInf cfg 12 [Value.slice x21aa x21an x21ac, Value.slice x27aa x27an x27ac] (List.length H) H2 = some (Value.bool x46, H2)) ∧ ((!x46) = true) ∧ ((!x46) = true) ∧ ((!x46) = true) ∧ ((!x46) = true) ∧ ((!x46) = true) ∧ (true = true) ∧ (true = true) ∧ (true = true) ∧ (true = true) ∧ (true = true) ∧ (true = true) ∧ (true = true) ∧ (true = true) ∧ (true = true) ∧ (true = true) ∧ e) (by kernel_rfl) ⟨h1, h2, h3, h4, h5, h6, h6, h6, h6, h6, rfl, rfl, rfl, rfl, rfl, rfl, rfl, rfl, rfl, rfl, rfl⟩ rfl
theorem f3_L0_0 (x0 : Int) (x1 : Int) (x7a : Option Addr) (x7n : Nat) (x7c : Nat) (x9a : Option Addr) (x9n : Nat) (x9c : Nat) (x15 : Int) (H0 : AHeap) (prot : Nat) (H : AHeap) (x73p : Nat) (x73o : Nat) (x73l : Nat) (H2 : AHeap) (h1 : x15 < (↑x7n : Int)) (h2 : aindexAddr cfg.P 22 (Value.slice x7a x7n x7c) (Value.int IntKind.i64 x15) = some (Value.pointer (some { block := x73p, off := x73o, spot := some x73l }))) (h3 : [Value.string { data := { toList := [109, 97, 114, 107] } }].length = 1) (h4 : setCells H (List.length H0) x73p x73l x73o [Value.string { data := { toList := [109, 97, 114, 107] } }] = some H2) (h5 : Fit IntKind.i64 (x15 + 1)) : lpOf cfg a3 0 prot H0 ([.int .i64 x0, .int .i64 x1, .slice x7a x7n x7c, .slice x9a x9n x9c, .int .i64 x15], H) = some (Sum.inl ([Value.int IntKind.i64 x0, Value.int IntKind.i64 x1, Value.slice x7a x7n x7c, Value.slice x9a x9n x9c, Value.int IntKind.i64 (x15 + 1)], H2)) :=
  lp_of [.e, .e, .b true, .v (.pointer (some ⟨x73p, x73o, some x73l⟩)), .h H2, .e] (fun e => (decide (x15 < (↑x7n : Int)) = true) ∧ (aindexAddr cfg.P 22 (Value.slice x7a x7n x7c) (Value.int IntKind.i64 x15) = some (Value.pointer (some { block := x73p, off := x73o, spot := some x73l }))) ∧ ([Value.string { data := { toList := [109, 97, 114, 107] } }].length = 1) ∧ (setCells H (List.length H0) x73p x73l x73o [Value.string { data := { toList := [109, 97, 114, 107] } }] = some H2) ∧ (Fit IntKind.i64 (x15 + 1)) ∧ e) (by kernel_rfl) ⟨decide_eq_true h1, h2, h3, h4, h5, rfl⟩
theorem f3_L0_1 (x0 : Int) (x1 : Int) (x7a : Option Addr) (x7n : Nat) (x7c : Nat) (x9a : Option Addr) (x9n : Nat) (x9c : Nat) (x15 : Int) (H0 : AHeap) (prot : Nat) (H : AHeap) (h1 : ¬(x15 < (↑x7n : Int))) : lpOf cfg a3 0 prot H0 ([.int .i64 x0, .int .i64 x1, .slice x7a x7n x7c, .slice x9a x9n x9c, .int .i64 x15], H) = some (Sum.inr (Ex.exit 0, [Value.int IntKind.i64 x0, Value.int IntKind.i64 x1, Value.slice x9a x9n x9c], H)) :=
  lp_of [.e, .e, .b false] (fun e => (decide (x15 < (↑x7n : Int)) = false) ∧ e) (by kernel_rfl) ⟨decide_eq_false h1, rfl⟩
end Go.Proofs.Ytedfombojnfbiaa.Am24
namespace Go.Proofs.Ytedfombojnfbiaa.Am24
open Go Go.Proofs.Ytedfombojnfbiaa.Am

theorem loop3 {k n : Int} {y : Value} {m : Nat} {o q : Option Nat} {ys : List ByteArray} (H0 : AHeap) (prot : Nat) (hm : m ≤ 100000) (hne : ∀ id, q = some id → o ≠ some id) (hq : ∀ id, q = some id → H0.length ≤ id) : ∀ (d i : Nat) (x : Value) (cs : List Value) (H : AHeap), i + d = m →
    Own H 9 1 x q m cs → (∀ id, o = some id → id < H.length) → Own H 9 1 y o ys.length (sc ys) →
    ∃ a' c' H', lpInf (lpOf cfg a3 0 prot H0) ([.int .i64 k, .int .i64 n, x, y, .int .i64 i], H) = some (.exit 0, [.int .i64 k, .int .i64 n, .slice a' ys.length c'], H') ∧ y = .slice a' ys.length c' ∧ Own H' 9 1 y o ys.length (sc ys)
  | 0, i, x, cs, H, hi, hx, ho, hy => by
    obtain ⟨a, c, rfl⟩ := hx.len
    obtain ⟨ya, yc, rfl⟩ := hy.len
    exact ⟨ya, yc, H, lp_last (f3_L0_1 k n a m c ya _ yc i H0 prot H (by omega)), rfl, hy⟩
  | d + 1, i, x, cs, H, hi, hx, ho, hy => by
    obtain ⟨a, c, rfl⟩ := hx.len
    obtain ⟨ya, yc, rfl⟩ := hy.len
    obtain ⟨id, H2, hid, p1, p2, p3, p4, p5⟩ := own_setS T22 hx (i := i) (j := 0) (by omega) (vs := [.string { data := { toList := [109, 97, 114, 107] } }]) (by simp) rfl (prot := H0.length) hq
    have step := f3_L0_0 k n a m c ya ys.length yc i H0 prot H id (i * 1) _ H2 (by omega) p1 rfl p2 (fit64 (by omega) (by omega))
    obtain ⟨a', c', H', r1, r2, r3⟩ := loop3 (k := k) (n := n) H0 prot hm hne hq d (i + 1) _ _ H2 (by omega) p3 (fun id h => by rw [p5]; exact ho id h) (hy.stay p4 (fun id2 h1 h2 => hne id2 h2 h1))
    exact ⟨a', c', H', lp_next step r1, r2, r3⟩

theorem wordsV_len (k n : Int) : (wordsV k n).1.length ≤ 100000 := by
  unfold wordsV
  split
  · rename_i h
    obtain ⟨a1, a2, a3, a4, _⟩ := pchk_ok h
    have h27 := c27 (k := k.toNat) (n := n.toNat) (by omega) (by omega) (by omega) 0 []
    revert h27
    cases clsV k.toNat n.toNat with
    | some r =>
      rintro ⟨a4, c4, a6, n6, c6, o4, om, o6, H1, h1, h2, h3, h4, h5, h6, h7, h8, h9, h10⟩
      have := h9.le
      simp only
      omega
    | none => intro _; simp
  · simp

theorem law3 (k n : Int) (w : ByteArray) (hw : w.size < 140737488355328) (prot : Nat) (H : AHeap) :
    callInf cfg 3 [.int .i64 k, .int .i64 n, .string w] prot H = some (.bool true, H) := by
  obtain ⟨a1, n1, c1, o1, H1, p1, p2, p3, p4⟩ := c8 k n H.length H
  obtain ⟨a2, n2, c2, o2, H2, q1, q2, q3, q4⟩ := c9 k n H.length H1
  have hl1 : (wordsV k n).1.length = n1 := by have := p2.1; simpa [sc] using this
  have hl2 : (wordsV k n).1.length = n2 := by have := q2.1; simpa [sc] using this
  have hle := wordsV_len k n
  subst hl1
  have e2 : n2 = (wordsV k n).1.length := hl2.symm
  subst e2
  have p22 := p2.stay q3 (fun _ _ h => by cases h)
  have hs := c12 H.length H2 (by omega) p22 q2
  rw [decide_eq_true rfl] at hs
  have r1 := c10 k n w (by omega) H.length H2
  have r2 := c11 k n w (by omega) H.length H2
  have hlt1 : ∀ id, o1 = some id → id < H1.length := fun id h => by subst h; exact own_lt p2
  have hlt2 : ∀ id, o2 = some id → id < H2.length := fun id h => by subst h; exact own_lt q2
  obtain ⟨a3, c3, H3, s1, s2, s3⟩ := loop3 (k := k) (n := n) (o := o2) (q := o1) H prot hle (fun id h1 h2 => by have := hlt1 id h1; have := q4 id h2; omega) p4 (wordsV k n).1.length 0 _ _ H2 (by omega) p22 hlt2 q2
  obtain ⟨a5, n5, c5, o5, H5, t1, t2, t3, t4⟩ := c8 k n H.length H3
  have hl5 : (wordsV k n).1.length = n5 := by have := t2.1; simpa [sc] using this
  injection s2 with e1 _ e3
  subst e1; subst e3
  have hs2 := c12 H.length H5 (by omega) t2 (s3.stay t3 (fun _ _ h => by cases h))
  rw [decide_eq_true rfl] at hs2
  exact f3_F_3 k n w H prot a1 _ c1 _ H1 a2 _ c2 _ H2 _ _ _ _ _ _ _ k n a2 _ c2 H3 a5 n5 c5 _ H5 _ _ p1 q1 r1 r2 hs rfl (f13_F_0 _ _ _) (by simp) (by simp) (f13_F_0 _ _ _) (by simp) s1 t1 hs2 rfl (cLive _ _)
end Go.Proofs.Ytedfombojnfbiaa.Am24
