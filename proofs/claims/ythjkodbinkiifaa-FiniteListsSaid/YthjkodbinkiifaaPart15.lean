/- A part of the proof of a given statement: Sp23_Ord, P23_67, P23_59, Sp23_C67, P23_42, P23_19, P23_20, Sp23_C42, Sp23_C20, P23_7, P23_25, Law23_7. No condition. -/
import Derived.Test.YthjkodbinkiifaaPart14
import Derived.Lib.Bytealg
import Derived.Laws.Strings
namespace Go.Proofs.Ythjkodbinkiifaa.Am23
open Go Go.Proofs.Ythjkodbinkiifaa.Am

def ordV (u v : ByteArray) : Int := if u.size = v.size then Extern.BytealgCompare.cmp u v else if u.size < v.size then -1 else 1
end Go.Proofs.Ythjkodbinkiifaa.Am23
set_option linter.unusedVariables false
open Go Go.Proofs.Ythjkodbinkiifaa.Am
namespace Go.Proofs.Ythjkodbinkiifaa.Am23
end Go.Proofs.Ythjkodbinkiifaa.Am23
set_option linter.unusedVariables false
open Go Go.Proofs.Ythjkodbinkiifaa.Am
namespace Go.Proofs.Ythjkodbinkiifaa.Am23
end Go.Proofs.Ythjkodbinkiifaa.Am23
namespace Go.Proofs.Ythjkodbinkiifaa.Am23
open Go Go.Proofs.Ythjkodbinkiifaa.Am

def wv (k : Nat) (xs : List Int) (n a : Nat) : Option Nat → ByteArray
  | none => ByteArray.empty
  | some t => wd0 k xs n a t

end Go.Proofs.Ythjkodbinkiifaa.Am23
set_option linter.unusedVariables false
open Go Go.Proofs.Ythjkodbinkiifaa.Am
namespace Go.Proofs.Ythjkodbinkiifaa.Am23
end Go.Proofs.Ythjkodbinkiifaa.Am23
set_option linter.unusedVariables false
open Go Go.Proofs.Ythjkodbinkiifaa.Am
namespace Go.Proofs.Ythjkodbinkiifaa.Am23
end Go.Proofs.Ythjkodbinkiifaa.Am23
set_option linter.unusedVariables false
open Go Go.Proofs.Ythjkodbinkiifaa.Am
namespace Go.Proofs.Ythjkodbinkiifaa.Am23
end Go.Proofs.Ythjkodbinkiifaa.Am23
namespace Go.Proofs.Ythjkodbinkiifaa.Am23
open Go Go.Proofs.Ythjkodbinkiifaa.Am

end Go.Proofs.Ythjkodbinkiifaa.Am23
namespace Go.Proofs.Ythjkodbinkiifaa.Am23
open Go Go.Proofs.Ythjkodbinkiifaa.Am

end Go.Proofs.Ythjkodbinkiifaa.Am23
set_option linter.unusedVariables false
open Go Go.Proofs.Ythjkodbinkiifaa.Am
namespace Go.Proofs.Ythjkodbinkiifaa.Am23
theorem f7_F_1 {x0a : Int} {x0ba : Option Addr} {x0bn x0bc : Nat} {x0ca : Option Addr} {x0cn x0cc : Nat} {x1 : ByteArray} {x2 : Int} {H : AHeap} {prot : Nat} {x15a : Int} {x15ba : Option Addr} {x15bn x15bc : Nat} {x15ca : Option Addr} {x15cn x15cc : Nat} {x16a : Int} {x16ba : Option Addr} {x16bn x16bc : Nat} {x16ca : Option Addr} {x16cn x16cc : Nat} {H1 H2 : AHeap} {x18a : Int} {x18ba : Option Addr} {x18bn x18bc : Nat} {x18ca : Option Addr} {x18cn x18cc : Nat} {x21aa : Option Addr} {x21an x21ac : Nat} {x21b : Int} {H3 : AHeap} {x25a : Int} {x25ba : Option Addr} {x25bn x25bc : Nat} {x25ca : Option Addr} {x25cn x25cc : Nat} {x28aa : Option Addr} {x28an x28ac : Nat} {x28b : Int} {H4 : AHeap} {x32a : Int} {x32ba : Option Addr} {x32bn x32bc : Nat} {x32ca : Option Addr} {x32cn x32cc : Nat} {x35aa : Option Addr} {x35an x35ac : Nat} {x35b : Int} {H5 : AHeap} {x39 : Int} {x45 x51 : Bool} {x55a : Int} {x55ba : Option Addr} {x55bn x55bc : Nat} {x55ca : Option Addr} {x55cn x55cc : Nat} {x56a : Int} {x56ba : Option Addr} {x56bn x56bc : Nat} {x56ca : Option Addr} {x56cn x56cc : Nat} {x57 x61 : Bool} {z10a : Option Addr} {z10n z10c : Nat} {z12a : Option Addr} {z12n z12c : Nat} {H6 : AHeap} {x75 : Bool} (h1 : [Value.int .i64 x0a, Value.slice x0ba x0bn x0bc, Value.slice x0ca x0cn x0cc].all isCell = true) (h2 : getCells (H ++ [vo [Value.int .i64 x0a, Value.slice x0ba x0bn x0bc, Value.slice x0ca x0cn x0cc] 25]) (List.length H) [Value.int .i64 x0a, Value.slice x0ba x0bn x0bc, Value.slice x0ca x0cn x0cc].length 0 3 = some [Value.int .i64 x15a, Value.slice x15ba x15bn x15bc, Value.slice x15ca x15cn x15cc]) (h3 : callInf cfg 17 [Value.agg { toList := [Value.int .i64 x15a, Value.slice x15ba x15bn x15bc, Value.slice x15ca x15cn x15cc] }] (List.length H) (H ++ [vo [Value.int .i64 x0a, Value.slice x0ba x0bn x0bc, Value.slice x0ca x0cn x0cc] 25]) = some (Value.agg { toList := [Value.int .i64 x16a, Value.slice x16ba x16bn x16bc, Value.slice x16ca x16cn x16cc] }, H1)) (h4 : [Value.int .i64 x16a, Value.slice x16ba x16bn x16bc, Value.slice x16ca x16cn x16cc].length = 3) (h5 : setCells (H1 ++ [vo [Value.int .i64 0, Value.slice none 0 0, Value.slice none 0 0] 25]) (List.length H) (List.length H1) [Value.int .i64 0, Value.slice none 0 0, Value.slice none 0 0].length 0 [Value.int .i64 x16a, Value.slice x16ba x16bn x16bc, Value.slice x16ca x16cn x16cc] = some H2) (h6 : getCells H2 (List.length H1) [Value.int .i64 0, Value.slice none 0 0, Value.slice none 0 0].length 0 3 = some [Value.int .i64 x18a, Value.slice x18ba x18bn x18bc, Value.slice x18ca x18cn x18cc]) (h7 : callInf cfg 23 [Value.agg { toList := [Value.int .i64 x18a, Value.slice x18ba x18bn x18bc, Value.slice x18ca x18cn x18cc] }, Value.string x1, Value.int .i64 x2] (List.length H) H2 = some (Value.tuple { toList := [Value.slice x21aa x21an x21ac, Value.int .i64 x21b] }, H3)) (h8 : getCells H3 (List.length H1) [Value.int .i64 0, Value.slice none 0 0, Value.slice none 0 0].length 0 3 = some [Value.int .i64 x25a, Value.slice x25ba x25bn x25bc, Value.slice x25ca x25cn x25cc]) (h9 : callInf cfg 23 [Value.agg { toList := [Value.int .i64 x25a, Value.slice x25ba x25bn x25bc, Value.slice x25ca x25cn x25cc] }, Value.string x1, Value.int .i64 x2] (List.length H) H3 = some (Value.tuple { toList := [Value.slice x28aa x28an x28ac, Value.int .i64 x28b] }, H4)) (h10 : getCells H4 (List.length H) [Value.int .i64 x0a, Value.slice x0ba x0bn x0bc, Value.slice x0ca x0cn x0cc].length 0 3 = some [Value.int .i64 x32a, Value.slice x32ba x32bn x32bc, Value.slice x32ca x32cn x32cc]) (h11 : callInf cfg 24 [Value.agg { toList := [Value.int .i64 x32a, Value.slice x32ba x32bn x32bc, Value.slice x32ca x32cn x32cc] }, Value.string x1, Value.int .i64 x2] (List.length H) H4 = some (Value.tuple { toList := [Value.slice x35aa x35an x35ac, Value.int .i64 x35b] }, H5)) (h12 : callInf cfg 15 [Value.int .i64 x21b] (List.length H) H5 = some (Value.int .i64 x39, H5)) (h13 : (x39 != x35b) = false) (h14 : callInf cfg 25 [Value.slice x21aa x21an x21ac, Value.slice x35aa x35an x35ac] (List.length H) H5 = some (Value.bool x45, H5)) (h15 : (!x45) = false) (h16 : callInf cfg 25 [Value.slice x28aa x28an x28ac, Value.slice x35aa x35an x35ac] (List.length H) H5 = some (Value.bool x51, H5)) (h17 : (!x51) = false) (h18 : getCells H5 (List.length H1) [Value.int .i64 0, Value.slice none 0 0, Value.slice none 0 0].length 0 3 = some [Value.int .i64 x55a, Value.slice x55ba x55bn x55bc, Value.slice x55ca x55cn x55cc]) (h19 : getCells H5 (List.length H) [Value.int .i64 x0a, Value.slice x0ba x0bn x0bc, Value.slice x0ca x0cn x0cc].length 0 3 = some [Value.int .i64 x56a, Value.slice x56ba x56bn x56bc, Value.slice x56ca x56cn x56cc]) (h20 : callInf cfg 21 [Value.agg { toList := [Value.int .i64 x55a, Value.slice x55ba x55bn x55bc, Value.slice x55ca x55cn x55cc] }, Value.agg { toList := [Value.int .i64 x56a, Value.slice x56ba x56bn x56bc, Value.slice x56ca x56cn x56cc] }] (List.length H) H5 = some (Value.bool x57, H5)) (h21 : (!x57) = false) (h22 : callInf cfg 12 [] (List.length H) H5 = some (Value.bool x61, H5)) (h23 : (!x61) = false) (h24 : lpInf (lpOf cfg a7 0 prot H) ([Value.slice x21aa x21an x21ac, Value.slice x28aa x28an x28ac, Value.slice x35aa x35an x35ac, Value.int .i64 0], H5) = some (Ex.exit 0, [Value.slice z10a z10n z10c, Value.slice z12a z12n z12c], H6)) (h25 : callInf cfg 25 [Value.slice z10a z10n z10c, Value.slice z12a z12n z12c] (List.length H) H6 = some (Value.bool x75, H6)) : callInf cfg 7 [.agg #[.int .i64 x0a, .slice x0ba x0bn x0bc, .slice x0ca x0cn x0cc], .string x1, .int .i64 x2] prot H = some (Value.bool x75, H) :=
  fn_of2 a7 [.e, .v (.agg #[.int .i64 x15a, .slice x15ba x15bn x15bc, .slice x15ca x15cn x15cc]), .r (.agg #[.int .i64 x16a, .slice x16ba x16bn x16bc, .slice x16ca x16cn x16cc]) H1, .e, .h H2, .v (.agg #[.int .i64 x18a, .slice x18ba x18bn x18bc, .slice x18ca x18cn x18cc]), .r (.tuple #[.slice x21aa x21an x21ac, .int .i64 x21b]) H3, .v (.agg #[.int .i64 x25a, .slice x25ba x25bn x25bc, .slice x25ca x25cn x25cc]), .r (.tuple #[.slice x28aa x28an x28ac, .int .i64 x28b]) H4, .v (.agg #[.int .i64 x32a, .slice x32ba x32bn x32bc, .slice x32ca x32cn x32cc]), .r (.tuple #[.slice x35aa x35an x35ac, .int .i64 x35b]) H5, .v (.int .i64 x39), .e, .b false, .b false, .b false, .v (.bool x45), .b false, .e, .b false, .b false, .b false, .b false, .v (.bool x51), .b false, .e, .b false, .b false, .v (.agg #[.int .i64 x55a, .slice x55ba x55bn x55bc, .slice x55ca x55cn x55cc]), .b false, .v (.agg #[.int .i64 x56a, .slice x56ba x56bn x56bc, .slice x56ca x56cn x56cc]), .b false, .v (.bool x57), .b false, .e, .b false, .b false, .v (.bool x61), .b false, .e, .b false, .b false, .lo (.exit 0, [.slice z10a z10n z10c, .slice z12a z12n z12c], H6), .v (.bool x75)] (ai h1 (ai h2 (ai h3 (ai h4 (ai h5 (ai h6 (ai h7 (ai h8 (ai h9 (ai h10 (ai h11 (ai h12 (ai h13 (ai h13 (ai h13 (ai h14 (ai h13 (ai h13 (ai h15 (ai h15 (ai h15 (ai h16 (ai h15 (ai h15 (ai h17 (ai h18 (ai h17 (ai h19 (ai h17 (ai h20 (ai h17 (ai h17 (ai h21 (ai h22 (ai h21 (ai h21 (ai h23 (ai h24 (ai h25 (Eq.refl ((Value.bool x75, H) : Value × AHeap))))))))))))))))))))))))))))))))))))))))) (by kernel_rfl) rfl
theorem f7_L0_0 {x8a : Option Addr} {x8n x8c : Nat} {x10a : Option Addr} {x10n x10c : Nat} {x12a : Option Addr} {x12n x12c : Nat} {x14 : Int} {H0 : AHeap} {prot : Nat} {H : AHeap} {x72p x72o x72l : Nat} {H2 : AHeap} (h1 : x14 < (↑x8n : Int)) (h2 : aindexAddr cfg.P 43 (Value.slice x8a x8n x8c) (Value.int .i64 x14) = some (Value.pointer (some ⟨x72p, x72o, some x72l⟩))) (h3 : [Value.string { data := { toList := [115, 112, 111, 105, 108, 116] } }].length = 1) (h4 : setCells H (List.length H0) x72p x72l x72o [Value.string { data := { toList := [115, 112, 111, 105, 108, 116] } }] = some H2) (h5 : Fit .i64 (x14 + 1)) : lpOf cfg a7 0 prot H0 ([.slice x8a x8n x8c, .slice x10a x10n x10c, .slice x12a x12n x12c, .int .i64 x14], H) = some (Sum.inl ([Value.slice x8a x8n x8c, Value.slice x10a x10n x10c, Value.slice x12a x12n x12c, Value.int .i64 (x14 + 1)], H2)) :=
  lp_of2 [.e, .e, .b true, .v (.pointer (some ⟨x72p, x72o, some x72l⟩)), .h H2, .e] (ai (decide_eq_true h1) (ai h2 (ai h3 (ai h4 (ai h5 (Eq.refl (Sum.inl ([Value.slice x8a x8n x8c, Value.slice x10a x10n x10c, Value.slice x12a x12n x12c, Value.int .i64 (x14 + 1)], H2) : LS ⊕ LO))))))) (by kernel_rfl)
theorem f7_L0_1 {x8a : Option Addr} {x8n x8c : Nat} {x10a : Option Addr} {x10n x10c : Nat} {x12a : Option Addr} {x12n x12c : Nat} {x14 : Int} {H0 : AHeap} {prot : Nat} {H : AHeap} (h1 : ¬(x14 < (↑x8n : Int))) : lpOf cfg a7 0 prot H0 ([.slice x8a x8n x8c, .slice x10a x10n x10c, .slice x12a x12n x12c, .int .i64 x14], H) = some (Sum.inr (Ex.exit 0, [Value.slice x10a x10n x10c, Value.slice x12a x12n x12c], H)) :=
  lp_of2 [.e, .e, .b false] (ai (decide_eq_false h1) (Eq.refl (Sum.inr (Ex.exit 0, [Value.slice x10a x10n x10c, Value.slice x12a x12n x12c], H) : LS ⊕ LO))) (by kernel_rfl)
end Go.Proofs.Ythjkodbinkiifaa.Am23
set_option linter.unusedVariables false
open Go Go.Proofs.Ythjkodbinkiifaa.Am
namespace Go.Proofs.Ythjkodbinkiifaa.Am23
theorem f25_F_1 {x0a : Option Addr} {x0n x0c : Nat} {x1a : Option Addr} {x1n x1c : Nat} {H : AHeap} {prot : Nat} {z4 : Value} {H1 : AHeap} (h1 : ((↑x0n : Int) != (↑x1n : Int)) = false) (h2 : lpInf (lpOf cfg a25 0 prot H) ([Value.slice x0a x0n x0c, Value.slice x1a x1n x1c, Value.int .i64 0], H) = some (Ex.exit 0, [z4], H1)) : callInf cfg 25 [.slice x0a x0n x0c, .slice x1a x1n x1c] prot H = some (Value.bool true, H) :=
  fn_of2 a25 [.e, .e, .e, .b false, .lo (.exit 0, [z4], H1)] (ai h1 (ai h2 (Eq.refl ((Value.bool true, H) : Value × AHeap)))) (by kernel_rfl) rfl
theorem f25_L0_1 {x0a : Option Addr} {x0n x0c : Nat} {x1a : Option Addr} {x1n x1c : Nat} {x5 : Int} {H0 : AHeap} {prot : Nat} {H : AHeap} {x19p x19o x19l : Nat} {x20 : ByteArray} {x23p x23o x23l : Nat} {x24 : ByteArray} (h1 : x5 < (↑x0n : Int)) (h2 : aindexAddr cfg.P 43 (Value.slice x0a x0n x0c) (Value.int .i64 x5) = some (Value.pointer (some ⟨x19p, x19o, some x19l⟩))) (h3 : getCells H x19p x19l x19o 1 = some [Value.string x20]) (h4 : aindexAddr cfg.P 43 (Value.slice x1a x1n x1c) (Value.int .i64 x5) = some (Value.pointer (some ⟨x23p, x23o, some x23l⟩))) (h5 : getCells H x23p x23l x23o 1 = some [Value.string x24]) (h6 : (!x20.toList == x24.toList) = false) (h7 : Fit .i64 (x5 + 1)) : lpOf cfg a25 0 prot H0 ([.slice x0a x0n x0c, .slice x1a x1n x1c, .int .i64 x5], H) = some (Sum.inl ([Value.slice x0a x0n x0c, Value.slice x1a x1n x1c, Value.int .i64 (x5 + 1)], H)) :=
  lp_of2 [.e, .e, .b true, .v (.pointer (some ⟨x19p, x19o, some x19l⟩)), .v (.string x20), .v (.pointer (some ⟨x23p, x23o, some x23l⟩)), .v (.string x24), .e, .b false, .e] (ai (decide_eq_true h1) (ai h2 (ai h3 (ai h4 (ai h5 (ai h6 (ai h7 (Eq.refl (Sum.inl ([Value.slice x0a x0n x0c, Value.slice x1a x1n x1c, Value.int .i64 (x5 + 1)], H) : LS ⊕ LO))))))))) (by kernel_rfl)
theorem f25_L0_2 {x0a : Option Addr} {x0n x0c : Nat} {x1a : Option Addr} {x1n x1c : Nat} {x5 : Int} {H0 : AHeap} {prot : Nat} {H : AHeap} (h1 : ¬(x5 < (↑x0n : Int))) : lpOf cfg a25 0 prot H0 ([.slice x0a x0n x0c, .slice x1a x1n x1c, .int .i64 x5], H) = some (Sum.inr (Ex.exit 0, [Value.tuple { toList := [] }], H)) :=
  lp_of2 [.e, .e, .b false] (ai (decide_eq_false h1) (Eq.refl (Sum.inr (Ex.exit 0, [Value.tuple { toList := [] }], H) : LS ⊕ LO))) (by kernel_rfl)
end Go.Proofs.Ythjkodbinkiifaa.Am23
namespace Go.Proofs.Ythjkodbinkiifaa.Am23
open Go Go.Proofs.Ythjkodbinkiifaa.Am

theorem loop25 {W : List (List Nat)} {v w : Value} (hn : W.length ≤ 100000000000000) {H0 H : AHeap} {prot : Nat} (hv : Rd H 9 1 v W.length (sl W)) (hw : Rd H 9 1 w W.length (sl W)) : ∀ (d i : Nat), i + d = W.length →
    lpInf (lpOf cfg a25 0 prot H0) ([v, w, .int .i64 i], H) = some (.exit 0, [.tuple #[]], H)
  | 0, i, hi => by
    obtain ⟨_, _, rfl⟩ := hv.len
    obtain ⟨_, _, rfl⟩ := hw.len
    exact lp_last (f25_L0_2 (by omega))
  | d + 1, i, hi => by
    obtain ⟨i1, L1, p1, p2⟩ := rd_at T43 hv (sl_at (show i < W.length by omega))
    obtain ⟨i2, L2, q1, q2⟩ := rd_at T43 hw (sl_at (show i < W.length by omega))
    have ih := loop25 hn hv hw (H0 := H0) (prot := prot) d (i + 1) (by omega)
    obtain ⟨_, _, rfl⟩ := hv.len
    obtain ⟨_, _, rfl⟩ := hw.len
    exact lp_next (f25_L0_1 (by omega) p1 p2 q1 q2 (by simp) (fit64 (by omega) (by omega))) ih
theorem c25 {W : List (List Nat)} {v w : Value} (hn : W.length ≤ 100000000000000) (prot : Nat) {H : AHeap} (hv : Rd H 9 1 v W.length (sl W)) (hw : Rd H 9 1 w W.length (sl W)) : callInf cfg 25 [v, w] prot H = some (.bool true, H) := by
  have h := loop25 hn hv hw (H0 := H) (prot := prot) W.length 0 (by omega)
  obtain ⟨_, _, rfl⟩ := hv.len
  obtain ⟨_, _, rfl⟩ := hw.len
  exact f25_F_1 (by simp) h

theorem loop7 {x : Value} {o : Option Nat} {n : Nat} (hn : n ≤ 100000) {H0 : AHeap} {prot : Nat} (ho : ∀ id, o = some id → H0.length ≤ id) {y z : Value} (hy : ∃ a m c, y = .slice a m c) (hz : ∃ a m c, z = .slice a m c) : ∀ (d i : Nat) (cs : List Value) (H : AHeap), i + d = n → Own H 9 1 x o n cs →
    ∃ H', lpInf (lpOf cfg a7 0 prot H0) ([x, y, z, .int .i64 i], H) = some (.exit 0, [y, z], H') ∧ Stay o H H'
  | 0, i, cs, H, hi, hx => by
    obtain ⟨_, _, rfl⟩ := hx.len
    obtain ⟨_, _, _, rfl⟩ := hy
    obtain ⟨_, _, _, rfl⟩ := hz
    exact ⟨H, lp_last (f7_L0_1 (by omega)), Stay.refl _ _⟩
  | d + 1, i, cs, H, hi, hx => by
    obtain ⟨id, H2, e, s1, s2, s3, s4, s5⟩ := own_setS T43 hx (i := i) (j := 0) (by omega) (vs := [.string ⟨#[115, 112, 111, 105, 108, 116]⟩]) (by simp) rfl (prot := H0.length) ho
    obtain ⟨H', u1, u2⟩ := loop7 hn ho (prot := prot) hy hz d (i + 1) _ H2 (by omega) s3
    refine ⟨H', ?_, s4.trans u2⟩
    obtain ⟨_, _, rfl⟩ := hx.len
    obtain ⟨_, _, _, rfl⟩ := hy
    obtain ⟨_, _, _, rfl⟩ := hz
    exact lp_next (f7_L0_0 (by omega) s1 rfl s2 (fit64 (by omega) (by omega))) u1

theorem wordsV_len {k : Int} {xs : List Int} {bs : List Bool} {w : ByteArray} {most : Int} : (wordsV k xs bs w most).1.length ≤ 1000 := by
  unfold wordsV
  split
  · simp
  · split
    · simp
    · split
      · simp
      · split
        · simp
        · split
          · simp
          · simp only [wordsL, List.length_take]; omega

theorem law7 {k : Int} {xs : List Int} {bs : List Bool} {vN vA : Value} (w : ByteArray) (most : Int) (hn : xs.length * 8 + 16 ≤ 140737488355328) (hb : bs.length ≤ 140737488355328) (hw : w.size < 140737488355328) (prot : Nat) (H : AHeap) (hA : IsA H xs bs vN vA) :
    callInf cfg 7 [av k vN vA, .string w, .int .i64 most] prot H = some (.bool true, H) := by
  obtain ⟨HX, hHX⟩ : ∃ HX, HX = H ++ [bx k vN vA] := ⟨_, rfl⟩
  have lX : HX.length = H.length + 1 := by rw [hHX]; simp
  have sX : Stay none H HX := by rw [hHX]; exact Stay.app none H _
  have hgX : HX[H.length]? = some (bx k vN vA) := by rw [hHX]; exact append_get.1
  have hAX := hA.stay sX
  obtain ⟨wN, wA, H1, r1, r2, r3⟩ := c17 (k := k) hn hb H.length HX hAX
  have l1 := r3.1
  obtain ⟨H2, u1, _, u3, u4⟩ := set3s (append_get.1 : (H1 ++ [AObj.cells [.int .i64 0, .slice none 0 0, .slice none 0 0] 25 3 .var])[H1.length]? = _) (show H.length ≤ H1.length by omega) (x := .int .i64 k) (y := wN) (z := wA) (by obtain ⟨_, _, rfl⟩ := r2.n.len; obtain ⟨_, _, rfl⟩ := r2.a.len; rfl)
  have s2 : Stay none H1 H2 := (Stay.app none H1 _).over u3 (fun id h => by have := Option.some.inj h; omega)
  have l2 := s2.1
  have l2' := u3.1
  simp only [List.length_append, List.length_singleton] at l2'
  have w2 := r2.stay s2
  obtain ⟨x1, o1, H3, p1, p2, p3, p4⟩ := c23 (k := k) w most H.length H2 w2
  obtain ⟨x2, o2, H4, q1, q2, q3, q4⟩ := c23 (k := k) w most H.length H3 (w2.stay p3)
  have sX4 := ((r3.trans s2).trans p3).trans q3
  obtain ⟨x3, o3, H5, t1, t2, t3, t4⟩ := c24 (k := k) w hw most H.length H4 (hAX.stay sX4)
  have hlen : (wordsV k xs bs w most).1.length ≤ 1000 := wordsV_len
  have l3 := p3.1
  have l4 := q3.1
  have l5 := t3.1
  have s35 : Stay none H3 H5 := q3.trans t3
  have y1 := p2.stay s35 (fun _ _ h => by cases h)
  have y2 := q2.stay t3 (fun _ _ h => by cases h)
  have hX5 := sX4.trans t3
  have e14 := c25 (by omega) H.length y1.rd t2.rd
  have e16 := c25 (by omega) H.length y2.rd t2.rd
  have h21 := c21 (k := k) (xs := xs) (bs := bs) (by omega) (by omega) H.length H5 (w2.stay (p3.trans s35)) (hAX.stay hX5)
  have hk := cKnows H.length H5
  obtain ⟨H6, z1, z2⟩ := loop7 (x := x1) (o := o1) (H0 := H) (prot := prot) (by omega) (fun id h => by have := p4 id h; omega) (by obtain ⟨a, c, h⟩ := y2.len; exact ⟨a, _, c, h⟩) (by obtain ⟨a, c, h⟩ := t2.len; exact ⟨a, _, c, h⟩) (wordsV k xs bs w most).1.length 0 _ H5 (by omega) y1
  have ho1 : ∀ id, o1 = some id → id < H3.length := fun id h => by rw [h] at p2; exact own_lt p2
  have e25 := c25 (by omega) H.length (y2.stay z2 (fun id h1 h2 => by have := q4 id h1; have := ho1 id h2; omega)).rd (t2.stay z2 (fun id h1 h2 => by have := t4 id h1; have := ho1 id h2; omega)).rd
  have g4 : H4[H.length]? = some (bx k vN vA) := by rw [sX4.2 _ (by omega) (by simp)]; exact hgX
  have g5 : H5[H.length]? = some (bx k vN vA) := by rw [hX5.2 _ (by omega) (by simp)]; exact hgX
  have t3' : H3[H1.length]? = some (.cells [.int .i64 k, wN, wA] 25 3 .var) := by rw [p3.2 _ (by omega) (by simp)]; exact u4
  have t5 : H5[H1.length]? = some (.cells [.int .i64 k, wN, wA] 25 3 .var) := by rw [s35.2 _ (by omega) (by simp)]; exact t3'
  obtain ⟨aN, cN, rfl⟩ := hA.n.len
  obtain ⟨aA, cA, rfl⟩ := hA.a.len
  obtain ⟨_, _, rfl⟩ := r2.n.len
  obtain ⟨_, _, rfl⟩ := r2.a.len
  obtain ⟨_, _, rfl⟩ := p2.len
  obtain ⟨_, _, rfl⟩ := q2.len
  obtain ⟨_, _, rfl⟩ := t2.len
  obtain ⟨_, _, _, gX⟩ := fld3 hgX
  obtain ⟨_, _, _, f2⟩ := fld3 u4
  obtain ⟨_, _, _, f3⟩ := fld3 t3'
  obtain ⟨_, _, _, f4⟩ := fld3 g4
  obtain ⟨_, _, _, f5⟩ := fld3 g5
  obtain ⟨_, _, _, ft5⟩ := fld3 t5
  subst hHX
  exact f7_F_1 all3 gX r1 rfl u1 f2 p1 f3 q1 f4 t1 f15_F_0 (by simp) e14 rfl e16 rfl ft5 f5 h21 rfl hk rfl z1 e25
theorem law7r {k : Int} {xs : List Int} {bs : List Bool} {vN vA : Value} (w : ByteArray) (most : Int) (prot : Nat) (H : AHeap) (hA : IsA H xs bs vN vA) (hn : xs.length * 8 + 16 ≤ 140737488355328) (hb : bs.length ≤ 140737488355328) (hw : w.size < 140737488355328) :
    callInf cfg 7 [av k vN vA, .string w, .int .i64 most] prot H = some (.bool true, H) := law7 w most hn hb hw prot H hA
end Go.Proofs.Ythjkodbinkiifaa.Am23
