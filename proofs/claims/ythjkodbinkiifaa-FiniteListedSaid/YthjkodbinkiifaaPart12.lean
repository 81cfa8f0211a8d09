/- A part of the proof of a given statement: P23_53, Sp23_C53, P23_37, Sp23_C37, P23_16, Sp23_Other, P23_13, Sp23_C13, AmGrow, P23_17, P23_39, Sp23_C17, AmArr, P23_45, P23_46, Sp23_C45, P23_44, Sp23_C44, AmConv, P23_27, P23_51, P23_68, P23_69, Sp23_C27, AmStk. No condition. -/
import Derived.Test.YthjkodbinkiifaaPart11
set_option linter.unusedVariables false
open Go Go.Proofs.Ythjkodbinkiifaa.Am
namespace Go.Proofs.Ythjkodbinkiifaa.Am23
theorem f53_F_0 {x0a : Int} {x0ba : Option Addr} {x0bn x0bc : Nat} {x0ca : Option Addr} {x0cn x0cc : Nat} {H : AHeap} {prot : Nat} {x8a : Int} {x8ba : Option Addr} {x8bn x8bc : Nat} {x8ca : Option Addr} {x8cn x8cc : Nat} {x9aa : Option Addr} {x9an x9ac : Nat} {x9ba : Option Addr} {x9bn x9bc : Nat} {H1 : AHeap} {x12a : Int} {x12ba : Option Addr} {x12bn x12bc : Nat} {x12ca : Option Addr} {x12cn x12cc : Nat} {x13a : Option Addr} {x13n x13c : Nat} {H2 : AHeap} {z4a : Option Addr} {z4n z4c : Nat} {H3 : AHeap} (rv : Value) (rH : AHeap) (h1 : [Value.int .i64 x0a, Value.slice x0ba x0bn x0bc, Value.slice x0ca x0cn x0cc].all isCell = true) (h2 : getCells (H ++ [vo [Value.int .i64 x0a, Value.slice x0ba x0bn x0bc, Value.slice x0ca x0cn x0cc] 25]) (List.length H) [Value.int .i64 x0a, Value.slice x0ba x0bn x0bc, Value.slice x0ca x0cn x0cc].length 0 3 = some [Value.int .i64 x8a, Value.slice x8ba x8bn x8bc, Value.slice x8ca x8cn x8cc]) (h3 : callInf cfg 65 [Value.agg { toList := [Value.int .i64 x8a, Value.slice x8ba x8bn x8bc, Value.slice x8ca x8cn x8cc] }, Value.int .i64 0, Value.bool true] (List.length H) (H ++ [vo [Value.int .i64 x0a, Value.slice x0ba x0bn x0bc, Value.slice x0ca x0cn x0cc] 25]) = some (Value.tuple { toList := [Value.slice x9aa x9an x9ac, Value.slice x9ba x9bn x9bc] }, H1)) (h4 : getCells H1 (List.length H) [Value.int .i64 x0a, Value.slice x0ba x0bn x0bc, Value.slice x0ca x0cn x0cc].length 0 3 = some [Value.int .i64 x12a, Value.slice x12ba x12bn x12bc, Value.slice x12ca x12cn x12cc]) (h5 : callInf cfg 71 [Value.agg { toList := [Value.int .i64 x12a, Value.slice x12ba x12bn x12bc, Value.slice x12ca x12cn x12cc] }] (List.length H) H1 = some (Value.slice x13a x13n x13c, H2)) (h6 : lpInf (lpOf cfg a53 0 prot H) ([Value.slice x9ba x9bn x9bc, Value.slice x13a x13n x13c, Value.int .i64 (↑x13n : Int), Value.int .i64 0], H2) = some (Ex.exit 0, [Value.slice z4a z4n z4c], H3)) (h7 : pfin a53 H [Value.slice z4a z4n z4c] H3 = (rv, rH)) : callInf cfg 53 [.agg #[.int .i64 x0a, .slice x0ba x0bn x0bc, .slice x0ca x0cn x0cc]] prot H = some (rv, rH) :=
  fn_of2 a53 [.e, .v (.agg #[.int .i64 x8a, .slice x8ba x8bn x8bc, .slice x8ca x8cn x8cc]), .r (.tuple #[.slice x9aa x9an x9ac, .slice x9ba x9bn x9bc]) H1, .v (.agg #[.int .i64 x12a, .slice x12ba x12bn x12bc, .slice x12ca x12cn x12cc]), .r (.slice x13a x13n x13c) H2, .e, .lo (.exit 0, [.slice z4a z4n z4c], H3)] (ai h1 (ai h2 (ai h3 (ai h4 (ai h5 (ai h6 h7)))))) (by kernel_rfl) rfl
theorem f53_L0_0 {x4a : Option Addr} {x4n x4c : Nat} {x13a : Option Addr} {x13n x13c : Nat} {x14 x15 : Int} {H0 : AHeap} {prot : Nat} {H : AHeap} {x18p x18o x18l : Nat} {x19 : Bool} {x24p x24o x24l : Nat} {x25 : Bool} {x29p x29o x29l : Nat} {H2 : AHeap} (h1 : x15 < x14) (h2 : aindexAddr cfg.P 23 (Value.slice x13a x13n x13c) (Value.int .i64 x15) = some (Value.pointer (some ⟨x18p, x18o, some x18l⟩))) (h3 : getCells H x18p x18l x18o 1 = some [Value.bool x19]) (h4 : aindexAddr cfg.P 23 (Value.slice x4a x4n x4c) (Value.int .i64 x15) = some (Value.pointer (some ⟨x24p, x24o, some x24l⟩))) (h5 : getCells H x24p x24l x24o 1 = some [Value.bool x25]) (h6 : x25 = true) (h7 : aindexAddr cfg.P 23 (Value.slice x4a x4n x4c) (Value.int .i64 x15) = some (Value.pointer (some ⟨x29p, x29o, some x29l⟩))) (h8 : [Value.bool x19].length = 1) (h9 : setCells H (List.length H0) x29p x29l x29o [Value.bool x19] = some H2) (h10 : Fit .i64 (x15 + 1)) : lpOf cfg a53 0 prot H0 ([.slice x4a x4n x4c, .slice x13a x13n x13c, .int .i64 x14, .int .i64 x15], H) = some (Sum.inl ([Value.slice x4a x4n x4c, Value.slice x13a x13n x13c, Value.int .i64 x14, Value.int .i64 (x15 + 1)], H2)) :=
  lp_of2 [.e, .b true, .v (.pointer (some ⟨x18p, x18o, some x18l⟩)), .v (.bool x19), .v (.pointer (some ⟨x24p, x24o, some x24l⟩)), .v (.bool x25), .b true, .b true, .v (.pointer (some ⟨x29p, x29o, some x29l⟩)), .h H2, .e] (ai (decide_eq_true h1) (ai h2 (ai h3 (ai h4 (ai h5 (ai h6 (ai h6 (ai h7 (ai h8 (ai h9 (ai h10 (Eq.refl (Sum.inl ([Value.slice x4a x4n x4c, Value.slice x13a x13n x13c, Value.int .i64 x14, Value.int .i64 (x15 + 1)], H2) : LS ⊕ LO))))))))))))) (by kernel_rfl)
theorem f53_L0_1 {x4a : Option Addr} {x4n x4c : Nat} {x13a : Option Addr} {x13n x13c : Nat} {x14 x15 : Int} {H0 : AHeap} {prot : Nat} {H : AHeap} {x18p x18o x18l : Nat} {x19 : Bool} {x24p x24o x24l : Nat} {x25 : Bool} {x29p x29o x29l : Nat} {H2 : AHeap} (h1 : x15 < x14) (h2 : aindexAddr cfg.P 23 (Value.slice x13a x13n x13c) (Value.int .i64 x15) = some (Value.pointer (some ⟨x18p, x18o, some x18l⟩))) (h3 : getCells H x18p x18l x18o 1 = some [Value.bool x19]) (h4 : aindexAddr cfg.P 23 (Value.slice x4a x4n x4c) (Value.int .i64 x15) = some (Value.pointer (some ⟨x24p, x24o, some x24l⟩))) (h5 : getCells H x24p x24l x24o 1 = some [Value.bool x25]) (h6 : x25 = false) (h7 : aindexAddr cfg.P 23 (Value.slice x4a x4n x4c) (Value.int .i64 x15) = some (Value.pointer (some ⟨x29p, x29o, some x29l⟩))) (h8 : [Value.bool false].length = 1) (h9 : setCells H (List.length H0) x29p x29l x29o [Value.bool false] = some H2) (h10 : Fit .i64 (x15 + 1)) : lpOf cfg a53 0 prot H0 ([.slice x4a x4n x4c, .slice x13a x13n x13c, .int .i64 x14, .int .i64 x15], H) = some (Sum.inl ([Value.slice x4a x4n x4c, Value.slice x13a x13n x13c, Value.int .i64 x14, Value.int .i64 (x15 + 1)], H2)) :=
  lp_of2 [.e, .b true, .v (.pointer (some ⟨x18p, x18o, some x18l⟩)), .v (.bool x19), .v (.pointer (some ⟨x24p, x24o, some x24l⟩)), .v (.bool x25), .b false, .b false, .v (.pointer (some ⟨x29p, x29o, some x29l⟩)), .h H2, .e] (ai (decide_eq_true h1) (ai h2 (ai h3 (ai h4 (ai h5 (ai h6 (ai h6 (ai h7 (ai h8 (ai h9 (ai h10 (Eq.refl (Sum.inl ([Value.slice x4a x4n x4c, Value.slice x13a x13n x13c, Value.int .i64 x14, Value.int .i64 (x15 + 1)], H2) : LS ⊕ LO))))))))))))) (by kernel_rfl)
theorem f53_L0_2 {x4a : Option Addr} {x4n x4c : Nat} {x13a : Option Addr} {x13n x13c : Nat} {x14 x15 : Int} {H0 : AHeap} {prot : Nat} {H : AHeap} (h1 : ¬(x15 < x14)) : lpOf cfg a53 0 prot H0 ([.slice x4a x4n x4c, .slice x13a x13n x13c, .int .i64 x14, .int .i64 x15], H) = some (Sum.inr (Ex.exit 0, [Value.slice x4a x4n x4c], H)) :=
  lp_of2 [.e, .b false] (ai (decide_eq_false h1) (Eq.refl (Sum.inr (Ex.exit 0, [Value.slice x4a x4n x4c], H) : LS ⊕ LO))) (by kernel_rfl)
end Go.Proofs.Ythjkodbinkiifaa.Am23
namespace Go.Proofs.Ythjkodbinkiifaa.Am23
open Go Go.Proofs.Ythjkodbinkiifaa.Am

theorem sl_at {W : List (List Nat)} {s : Nat} (h : s < W.length) : (sl W)[s]? = some (.string (lw (W.getD s []))) := by
  unfold sl; rw [List.getElem?_map, List.getElem?_eq_getElem h, List.getD_eq_getElem?_getD, List.getElem?_eq_getElem h]; rfl
theorem bl_at {D : List Bool} {s : Nat} (h : s < D.length) : (bll D)[s]? = some (.bool (D.getD s false)) := by
  unfold bll; rw [List.getElem?_map, List.getElem?_eq_getElem h, List.getD_eq_getElem?_getD, List.getElem?_eq_getElem h]; rfl
theorem ext_getD {D E : List Bool} (h : D.length = E.length) (k : ∀ s, s < D.length → D.getD s false = E.getD s false) : D = E := by
  apply List.ext_getElem h
  intro s h1 h2
  have := k s h1
  rw [List.getD_eq_getElem?_getD, List.getD_eq_getElem?_getD, List.getElem?_eq_getElem h1, List.getElem?_eq_getElem h2] at this
  simpa using this
/-- Which states are useful. -/
noncomputable def useL (k : Nat) (xs : List Int) (bs : List Bool) : List Bool := (List.range bs.length).map fun s => (bfs k xs bs.length 0 true).met.getD s false && (hopeL k xs bs).getD s false
theorem useL_len (k : Nat) (xs : List Int) (bs : List Bool) : (useL k xs bs).length = bs.length := by simp [useL]
theorem useL_at {k : Nat} {xs : List Int} {bs : List Bool} {s : Nat} (h : s < bs.length) : (useL k xs bs).getD s false = ((bfs k xs bs.length 0 true).met.getD s false && (hopeL k xs bs).getD s false) := by
  unfold useL
  rw [List.getD_eq_getElem?_getD, List.getElem?_map, List.getElem?_range h]
  rfl

theorem loop53 {n : Nat} (hn : n ≤ 512) {M h : List Bool} (hM : M.length = n) (hh : h.length = n) {H0 : AHeap} {prot : Nat} {x4 x13 : Value} {o4 o13 : Nat} (l4 : H0.length ≤ o4) (hne : o4 ≠ o13) : ∀ (d i : Nat) (D : List Bool) (H : AHeap), i + d = n → D.length = n →
    (∀ s, s < n → D.getD s false = if s < i then M.getD s false && h.getD s false else M.getD s false) → Own H 4 1 x4 (some o4) n (bll D) → Own H 4 1 x13 (some o13) n (bll h) →
    ∃ H', lpInf (lpOf cfg a53 0 prot H0) ([x4, x13, .int .i64 n, .int .i64 i], H) = some (.exit 0, [x4], H') ∧ ∃ D', Own H' 4 1 x4 (some o4) n (bll D') ∧ D'.length = n ∧ ∀ s, s < n → D'.getD s false = (M.getD s false && h.getD s false)
  | 0, i, D, H, hi, hD, hs, w4, w13 => by
    obtain ⟨a4, c4, rfl⟩ := w4.len
    obtain ⟨a13, c13, rfl⟩ := w13.len
    exact ⟨H, lp_last (f53_L0_2 (by omega)), D, w4, hD, fun s hs' => by rw [hs s hs', if_pos (by omega)]⟩
  | d + 1, i, D, H, hi, hD, hs, w4, w13 => by
    obtain ⟨a4, c4, rfl⟩ := w4.len
    obtain ⟨a13, c13, rfl⟩ := w13.len
    have hin : i < n := by omega
    obtain ⟨_, e, m1, m2⟩ := own_at T23 w13 (bl_at (show i < h.length by omega))
    cases e
    obtain ⟨_, e, p1, p2⟩ := own_at T23 w4 (bl_at (show i < D.length by omega))
    cases e
    have fi : Fit .i64 ((i : Int) + 1) := fit64 (by omega) (by omega)
    have hDi := hs i hin
    rw [if_neg (by omega)] at hDi
    have nxt : ∀ v : Bool, v = (D.getD i false && h.getD i false) → ∃ H', setCells H H0.length o4 (bll D).length i [.bool v] = some H' ∧ Own H' 4 1 (.slice a4 n c4) (some o4) n (bll (D.set i v)) ∧ Own H' 4 1 (.slice a13 n c13) (some o13) n (bll h) ∧ ∀ s, s < n → (D.set i v).getD s false = if s < i + 1 then M.getD s false && h.getD s false else M.getD s false := fun v hv => by
      obtain ⟨_, H2, e, s1, s2, s3, s4, s5⟩ := own_setS T23 w4 (i := i) (j := 0) hin (vs := [.bool v]) (by simp) rfl (prot := H0.length) (fun id hh => by cases hh; exact l4)
      cases e
      rw [put_bl _ (by omega)] at s3
      rw [Nat.mul_one, Nat.add_zero] at s2
      refine ⟨H2, s2, s3, w13.stay s4 (fun id h1 h2 => by cases h1; cases h2; exact hne rfl), fun s hsn => ?_⟩
      rw [getD_setB (by omega)]
      by_cases he : s = i
      · subst he; rw [if_pos rfl, if_pos (by omega), hv, hDi]
      · rw [if_neg he, hs s hsn]
        by_cases hlt : s < i
        · rw [if_pos hlt, if_pos (by omega)]
        · rw [if_neg hlt, if_neg (by omega)]
    by_cases hd : D.getD i false = true
    · obtain ⟨H2, s2, s3, s4, s5⟩ := nxt (h.getD i false) (by rw [hd, Bool.true_and])
      obtain ⟨H', u1, u2⟩ := loop53 hn hM hh (prot := prot) l4 hne d (i + 1) _ H2 (by omega) (by simp [hD]) s5 s3 s4
      rw [hd] at p2
      exact ⟨H', lp_next (f53_L0_0 (by omega) m1 m2 p1 p2 rfl p1 rfl s2 fi) u1, u2⟩
    · have hd : D.getD i false = false := by simpa using hd
      obtain ⟨H2, s2, s3, s4, s5⟩ := nxt false (by rw [hd, Bool.false_and])
      obtain ⟨H', u1, u2⟩ := loop53 hn hM hh (prot := prot) l4 hne d (i + 1) _ H2 (by omega) (by simp [hD]) s5 s3 s4
      rw [hd] at p2
      exact ⟨H', lp_next (f53_L0_1 (by omega) m1 m2 p1 p2 rfl p1 rfl s2 fi) u1, u2⟩

theorem c53 {k : Nat} {xs : List Int} {bs : List Bool} {vN vA : Value} (hG : Good k xs bs) (prot : Nat) (H : AHeap) (hA : IsA H xs bs vN vA) :
    ∃ p c H', callInf cfg 53 [av k vN vA] prot H = some (.slice p bs.length c, H') ∧ Own H' 4 1 (.slice p bs.length c) (some H.length) bs.length (bll (useL k xs bs)) ∧ Stay none H H' := by
  obtain ⟨HX, hHX⟩ : ∃ HX, HX = H ++ [bx k vN vA] := ⟨_, rfl⟩
  have lX : HX.length = H.length + 1 := by rw [hHX]; simp
  have sX : Stay none H HX := by rw [hHX]; exact Stay.app none H _
  have hb1 := hG.n1
  have hb5 := hG.n5
  obtain ⟨x, y, p, q, c, d, H1, r1, rfl, rfl, r2, r3, r4, r5⟩ := c65 hG (a := 0) (by omega) true H.length HX (hA.stay sX)
  obtain ⟨p', c', H2, s1, s2, s3⟩ := c71 hG H.length H1 ((hA.stay sX).stay r4)
  obtain ⟨aN, cN, rfl⟩ := hA.n.len
  obtain ⟨aA, cA, rfl⟩ := hA.a.len
  have hgX : HX[H.length]? = some (bx k (.slice aN xs.length cN) (.slice aA bs.length cA)) := by rw [hHX]; exact append_get.1
  have hg1 : H1[H.length]? = some (bx k (.slice aN xs.length cN) (.slice aA bs.length cA)) := by rw [r4.2 _ (by omega) (by simp)]; exact hgX
  obtain ⟨_, _, _, gX⟩ := fld3 hgX
  obtain ⟨_, _, _, g1⟩ := fld3 hg1
  have hok := bfs_ok hG (show 0 < bs.length by omega) true
  obtain ⟨H3, t1, D', t2, t3, t4⟩ := loop53 hb5 hok.lm (hopeL_len k xs bs) (H0 := H) (prot := prot) (by omega) (by omega) bs.length 0 _ H2 (by omega) hok.lm (fun s hs => by rw [if_neg (by omega)]) (r3.stay s3 (fun id _ h => by cases h)) s2
  have hDu : D' = useL k xs bs := by
    refine ext_getD (by rw [t3, useL_len]) (fun s hs => ?_)
    rw [t4 s (by omega), useL_at (by omega)]
  subst hDu
  obtain ⟨H4, u1, u2, u3⟩ := gc_own t2 (H := H) (by omega) (bll_cell _)
  refine ⟨_, _, H4, ?_, u2, u3⟩
  subst hHX
  exact f53_F_0 _ _ all3 gX r1 g1 s1 t1 (by rw [pfin_eq]; exact u1)
end Go.Proofs.Ythjkodbinkiifaa.Am23
set_option linter.unusedVariables false
open Go Go.Proofs.Ythjkodbinkiifaa.Am
namespace Go.Proofs.Ythjkodbinkiifaa.Am23
theorem f37_F_0 {x0a : Int} {x0ba : Option Addr} {x0bn x0bc : Nat} {x0ca : Option Addr} {x0cn x0cc : Nat} {H : AHeap} {prot : Nat} {x17a : Int} {x17ba : Option Addr} {x17bn x17bc : Nat} {x17ca : Option Addr} {x17cn x17cc : Nat} {x18a : Option Addr} {x18n x18c : Nat} {H1 : AHeap} {x20a : Int} {x20ba : Option Addr} {x20bn x20bc : Nat} {x20ca : Option Addr} {x20cn x20cc : Nat} {x21aa : Option Addr} {x21an x21ac : Nat} {x21ba : Option Addr} {x21bn x21bc : Nat} {H2 : AHeap} {z1p z1o z1l z3p z3o z3l : Nat} {z5a : Option Addr} {z5n z5c : Nat} {z7 : Int} {H3 H4 : AHeap} {wa wb wc : ByteArray} (h1 : [Value.int .i64 x0a, Value.slice x0ba x0bn x0bc, Value.slice x0ca x0cn x0cc].all isCell = true) (h2 : getCells (H ++ [vo [Value.int .i64 x0a, Value.slice x0ba x0bn x0bc, Value.slice x0ca x0cn x0cc] 25] ++ [vo [Value.string { data := { toList := [] } }, Value.string { data := { toList := [] } }, Value.string { data := { toList := [] } }] 29]) (List.length H) [Value.int .i64 x0a, Value.slice x0ba x0bn x0bc, Value.slice x0ca x0cn x0cc].length 0 3 = some [Value.int .i64 x17a, Value.slice x17ba x17bn x17bc, Value.slice x17ca x17cn x17cc]) (h3 : callInf cfg 53 [Value.agg { toList := [Value.int .i64 x17a, Value.slice x17ba x17bn x17bc, Value.slice x17ca x17cn x17cc] }] (List.length H) (H ++ [vo [Value.int .i64 x0a, Value.slice x0ba x0bn x0bc, Value.slice x0ca x0cn x0cc] 25] ++ [vo [Value.string { data := { toList := [] } }, Value.string { data := { toList := [] } }, Value.string { data := { toList := [] } }] 29]) = some (Value.slice x18a x18n x18c, H1)) (h4 : getCells H1 (List.length H) [Value.int .i64 x0a, Value.slice x0ba x0bn x0bc, Value.slice x0ca x0cn x0cc].length 0 3 = some [Value.int .i64 x20a, Value.slice x20ba x20bn x20bc, Value.slice x20ca x20cn x20cc]) (h5 : callInf cfg 65 [Value.agg { toList := [Value.int .i64 x20a, Value.slice x20ba x20bn x20bc, Value.slice x20ca x20cn x20cc] }, Value.int .i64 0, Value.bool true] (List.length H) H1 = some (Value.tuple { toList := [Value.slice x21aa x21an x21ac, Value.slice x21ba x21bn x21bc] }, H2)) (h6 : lpInf (lpOf cfg a37 0 prot H) ([Value.pointer (some ⟨List.length H, 0, some [Value.int .i64 x0a, Value.slice x0ba x0bn x0bc, Value.slice x0ca x0cn x0cc].length⟩), Value.pointer (some { block := List.length (H ++ [vo [Value.int .i64 x0a, Value.slice x0ba x0bn x0bc, Value.slice x0ca x0cn x0cc] 25]), off := 0, spot := some [Value.string { data := { toList := [] } }, Value.string { data := { toList := [] } }, Value.string { data := { toList := [] } }].length }), Value.slice x18a x18n x18c, Value.slice x21aa x21an x21ac, Value.int .i64 (-1), Value.int .i64 (↑x18n : Int), Value.int .i64 0], H2) = some (Ex.exit 0, [Value.pointer (some ⟨z1p, z1o, some z1l⟩), Value.pointer (some ⟨z3p, z3o, some z3l⟩), Value.slice z5a z5n z5c, Value.int .i64 z7], H3)) (h7 : z7 < 0) (h8 : [Value.string { data := { toList := [] } }, Value.string { data := { toList := [] } }, Value.string { data := { toList := [] } }].length = 3) (h9 : setCells H3 (List.length H) z3p z3l z3o [Value.string { data := { toList := [] } }, Value.string { data := { toList := [] } }, Value.string { data := { toList := [] } }] = some H4) (h10 : getCells H4 z3p z3l z3o 3 = some [Value.string wa, Value.string wb, Value.string wc]) : callInf cfg 37 [.agg #[.int .i64 x0a, .slice x0ba x0bn x0bc, .slice x0ca x0cn x0cc]] prot H = some (Value.tuple { toList := [Value.bool true, Value.agg { toList := [Value.string wa, Value.string wb, Value.string wc] }] }, H) :=
  fn_of2 a37 [.e, .e, .v (.agg #[.int .i64 x17a, .slice x17ba x17bn x17bc, .slice x17ca x17cn x17cc]), .r (.slice x18a x18n x18c) H1, .v (.agg #[.int .i64 x20a, .slice x20ba x20bn x20bc, .slice x20ca x20cn x20cc]), .r (.tuple #[.slice x21aa x21an x21ac, .slice x21ba x21bn x21bc]) H2, .e, .lo (.exit 0, [.pointer (some ⟨z1p, z1o, some z1l⟩), .pointer (some ⟨z3p, z3o, some z3l⟩), .slice z5a z5n z5c, .int .i64 z7], H3), .e, .b true, .e, .h H4, .v (.agg #[.string wa, .string wb, .string wc])] (ai h1 (ai h2 (ai h3 (ai h4 (ai h5 (ai h6 (ai (decide_eq_true h7) (ai h8 (ai h9 (ai h10 (Eq.refl ((Value.tuple { toList := [Value.bool true, Value.agg { toList := [Value.string wa, Value.string wb, Value.string wc] }] }, H) : Value × AHeap)))))))))))) (by kernel_rfl) rfl
theorem f37_F_1 {x0a : Int} {x0ba : Option Addr} {x0bn x0bc : Nat} {x0ca : Option Addr} {x0cn x0cc : Nat} {H : AHeap} {prot : Nat} {x17a : Int} {x17ba : Option Addr} {x17bn x17bc : Nat} {x17ca : Option Addr} {x17cn x17cc : Nat} {x18a : Option Addr} {x18n x18c : Nat} {H1 : AHeap} {x20a : Int} {x20ba : Option Addr} {x20bn x20bc : Nat} {x20ca : Option Addr} {x20cn x20cc : Nat} {x21aa : Option Addr} {x21an x21ac : Nat} {x21ba : Option Addr} {x21bn x21bc : Nat} {H2 : AHeap} {z1p z1o z1l z3p z3o z3l : Nat} {z5a : Option Addr} {z5n z5c : Nat} {z7 : Int} {H3 : AHeap} {x90a : Int} {x90ba : Option Addr} {x90bn x90bc : Nat} {x90ca : Option Addr} {x90cn x90cc : Nat} {x92aa : Option Addr} {x92an x92ac : Nat} {x92ba : Option Addr} {x92bn x92bc : Nat} {H4 : AHeap} {x96a : Int} {x96ba : Option Addr} {x96bn x96bc : Nat} {x96ca : Option Addr} {x96cn x96cc : Nat} {x98aa : Option Addr} {x98an x98ac : Nat} {x98ba : Option Addr} {x98bn x98bc : Nat} {H5 : AHeap} {x102a : Option Addr} {x102n x102c z3p_2 z3o_2 z3l_2 : Nat} {z5a_2 : Option Addr} {z5n_2 z5c_2 : Nat} {z7_2 : Int} {z11a : Option Addr} {z11n z11c : Nat} {z13a : Option Addr} {z13n z13c : Nat} {z15 : Int} {H6 : AHeap} {x163p x163o x163l : Nat} {x164 : ByteArray} {x167p x167o x167l : Nat} {x168 : ByteArray} {x171p x171o x171l : Nat} {x172 : ByteArray} {H7 : AHeap} {wa wb wc : ByteArray} (h1 : [Value.int .i64 x0a, Value.slice x0ba x0bn x0bc, Value.slice x0ca x0cn x0cc].all isCell = true) (h2 : getCells (H ++ [vo [Value.int .i64 x0a, Value.slice x0ba x0bn x0bc, Value.slice x0ca x0cn x0cc] 25] ++ [vo [Value.string { data := { toList := [] } }, Value.string { data := { toList := [] } }, Value.string { data := { toList := [] } }] 29]) (List.length H) [Value.int .i64 x0a, Value.slice x0ba x0bn x0bc, Value.slice x0ca x0cn x0cc].length 0 3 = some [Value.int .i64 x17a, Value.slice x17ba x17bn x17bc, Value.slice x17ca x17cn x17cc]) (h3 : callInf cfg 53 [Value.agg { toList := [Value.int .i64 x17a, Value.slice x17ba x17bn x17bc, Value.slice x17ca x17cn x17cc] }] (List.length H) (H ++ [vo [Value.int .i64 x0a, Value.slice x0ba x0bn x0bc, Value.slice x0ca x0cn x0cc] 25] ++ [vo [Value.string { data := { toList := [] } }, Value.string { data := { toList := [] } }, Value.string { data := { toList := [] } }] 29]) = some (Value.slice x18a x18n x18c, H1)) (h4 : getCells H1 (List.length H) [Value.int .i64 x0a, Value.slice x0ba x0bn x0bc, Value.slice x0ca x0cn x0cc].length 0 3 = some [Value.int .i64 x20a, Value.slice x20ba x20bn x20bc, Value.slice x20ca x20cn x20cc]) (h5 : callInf cfg 65 [Value.agg { toList := [Value.int .i64 x20a, Value.slice x20ba x20bn x20bc, Value.slice x20ca x20cn x20cc] }, Value.int .i64 0, Value.bool true] (List.length H) H1 = some (Value.tuple { toList := [Value.slice x21aa x21an x21ac, Value.slice x21ba x21bn x21bc] }, H2)) (h6 : lpInf (lpOf cfg a37 0 prot H) ([Value.pointer (some ⟨List.length H, 0, some [Value.int .i64 x0a, Value.slice x0ba x0bn x0bc, Value.slice x0ca x0cn x0cc].length⟩), Value.pointer (some { block := List.length (H ++ [vo [Value.int .i64 x0a, Value.slice x0ba x0bn x0bc, Value.slice x0ca x0cn x0cc] 25]), off := 0, spot := some [Value.string { data := { toList := [] } }, Value.string { data := { toList := [] } }, Value.string { data := { toList := [] } }].length }), Value.slice x18a x18n x18c, Value.slice x21aa x21an x21ac, Value.int .i64 (-1), Value.int .i64 (↑x18n : Int), Value.int .i64 0], H2) = some (Ex.exit 0, [Value.pointer (some ⟨z1p, z1o, some z1l⟩), Value.pointer (some ⟨z3p, z3o, some z3l⟩), Value.slice z5a z5n z5c, Value.int .i64 z7], H3)) (h7 : ¬(z7 < 0)) (h8 : getCells H3 z1p z1l z1o 3 = some [Value.int .i64 x90a, Value.slice x90ba x90bn x90bc, Value.slice x90ca x90cn x90cc]) (h9 : callInf cfg 65 [Value.agg { toList := [Value.int .i64 x90a, Value.slice x90ba x90bn x90bc, Value.slice x90ca x90cn x90cc] }, Value.int .i64 z7, Value.bool false] (List.length H) H3 = some (Value.tuple { toList := [Value.slice x92aa x92an x92ac, Value.slice x92ba x92bn x92bc] }, H4)) (h10 : getCells H4 z1p z1l z1o 3 = some [Value.int .i64 x96a, Value.slice x96ba x96bn x96bc, Value.slice x96ca x96cn x96cc]) (h11 : callInf cfg 65 [Value.agg { toList := [Value.int .i64 x96a, Value.slice x96ba x96bn x96bc, Value.slice x96ca x96cn x96cc] }, Value.int .i64 z7, Value.bool true] (List.length H) H4 = some (Value.tuple { toList := [Value.slice x98aa x98an x98ac, Value.slice x98ba x98bn x98bc] }, H5)) (h12 : getCells H5 z1p z1l (z1o + 2) 1 = some [Value.slice x102a x102n x102c]) (h13 : lpInf (lpOf cfg a37 1 prot H) ([Value.pointer (some ⟨z1p, z1o, some z1l⟩), Value.pointer (some ⟨z3p, z3o, some z3l⟩), Value.slice z5a z5n z5c, Value.int .i64 z7, Value.slice x92aa x92an x92ac, Value.slice x98aa x98an x98ac, Value.slice x98ba x98bn x98bc, Value.int .i64 (-1), Value.int .i64 (↑x102n : Int), Value.int .i64 0], H5) = some (Ex.exit 2, [Value.pointer (some ⟨z3p_2, z3o_2, some z3l_2⟩), Value.slice z5a_2 z5n_2 z5c_2, Value.int .i64 z7_2, Value.slice z11a z11n z11c, Value.slice z13a z13n z13c, Value.int .i64 z15], H6)) (h14 : aindexAddr cfg.P 43 (Value.slice z5a_2 z5n_2 z5c_2) (Value.int .i64 z7_2) = some (Value.pointer (some ⟨x163p, x163o, some x163l⟩))) (h15 : getCells H6 x163p x163l x163o 1 = some [Value.string x164]) (h16 : aindexAddr cfg.P 43 (Value.slice z11a z11n z11c) (Value.int .i64 z7_2) = some (Value.pointer (some ⟨x167p, x167o, some x167l⟩))) (h17 : getCells H6 x167p x167l x167o 1 = some [Value.string x168]) (h18 : aindexAddr cfg.P 43 (Value.slice z13a z13n z13c) (Value.int .i64 z15) = some (Value.pointer (some ⟨x171p, x171o, some x171l⟩))) (h19 : getCells H6 x171p x171l x171o 1 = some [Value.string x172]) (h20 : [Value.string x164, Value.string x168, Value.string x172].length = 3) (h21 : setCells H6 (List.length H) z3p_2 z3l_2 z3o_2 [Value.string x164, Value.string x168, Value.string x172] = some H7) (h22 : getCells H7 z3p_2 z3l_2 z3o_2 3 = some [Value.string wa, Value.string wb, Value.string wc]) : callInf cfg 37 [.agg #[.int .i64 x0a, .slice x0ba x0bn x0bc, .slice x0ca x0cn x0cc]] prot H = some (Value.tuple { toList := [Value.bool false, Value.agg { toList := [Value.string wa, Value.string wb, Value.string wc] }] }, H) :=
  fn_of2 a37 [.e, .e, .v (.agg #[.int .i64 x17a, .slice x17ba x17bn x17bc, .slice x17ca x17cn x17cc]), .r (.slice x18a x18n x18c) H1, .v (.agg #[.int .i64 x20a, .slice x20ba x20bn x20bc, .slice x20ca x20cn x20cc]), .r (.tuple #[.slice x21aa x21an x21ac, .slice x21ba x21bn x21bc]) H2, .e, .lo (.exit 0, [.pointer (some ⟨z1p, z1o, some z1l⟩), .pointer (some ⟨z3p, z3o, some z3l⟩), .slice z5a z5n z5c, .int .i64 z7], H3), .e, .b false, .v (.agg #[.int .i64 x90a, .slice x90ba x90bn x90bc, .slice x90ca x90cn x90cc]), .r (.tuple #[.slice x92aa x92an x92ac, .slice x92ba x92bn x92bc]) H4, .v (.agg #[.int .i64 x96a, .slice x96ba x96bn x96bc, .slice x96ca x96cn x96cc]), .r (.tuple #[.slice x98aa x98an x98ac, .slice x98ba x98bn x98bc]) H5, .v (.slice x102a x102n x102c), .e, .lo (.exit 2, [.pointer (some ⟨z3p_2, z3o_2, some z3l_2⟩), .slice z5a_2 z5n_2 z5c_2, .int .i64 z7_2, .slice z11a z11n z11c, .slice z13a z13n z13c, .int .i64 z15], H6), .v (.pointer (some ⟨x163p, x163o, some x163l⟩)), .v (.string x164), .v (.pointer (some ⟨x167p, x167o, some x167l⟩)), .v (.string x168), .v (.pointer (some ⟨x171p, x171o, some x171l⟩)), .v (.string x172), .e, .h H7, .v (.agg #[.string wa, .string wb, .string wc])] (ai h1 (ai h2 (ai h3 (ai h4 (ai h5 (ai h6 (ai (decide_eq_false h7) (ai h8 (ai h9 (ai h10 (ai h11 (ai h12 (ai h13 (ai h14 (ai h15 (ai h16 (ai h17 (ai h18 (ai h19 (ai h20 (ai h21 (ai h22 (Eq.refl ((Value.tuple { toList := [Value.bool false, Value.agg { toList := [Value.string wa, Value.string wb, Value.string wc] }] }, H) : Value × AHeap)))))))))))))))))))))))) (by kernel_rfl) rfl
theorem f37_L0_0 {x1p x1o x1l x3p x3o x3l : Nat} {x4a : Option Addr} {x4n x4c : Nat} {x5a : Option Addr} {x5n x5c : Nat} {x7 x25 x26 : Int} {H0 : AHeap} {prot : Nat} {H : AHeap} {x31p x31o x31l : Nat} {x32 : Bool} {x35a : Int} {x35ba : Option Addr} {x35bn x35bc : Nat} {x35ca : Option Addr} {x35cn x35cc : Nat} {x37aa : Option Addr} {x37an x37ac : Nat} {x37ba : Option Addr} {x37bn x37bc : Nat} {H2 : AHeap} {x42p x42o x42l : Nat} {x43 : Bool} (h1 : x26 < x25) (h2 : aindexAddr cfg.P 23 (Value.slice x4a x4n x4c) (Value.int .i64 x26) = some (Value.pointer (some ⟨x31p, x31o, some x31l⟩))) (h3 : getCells H x31p x31l x31o 1 = some [Value.bool x32]) (h4 : (!x32) = false) (h5 : getCells H x1p x1l x1o 3 = some [Value.int .i64 x35a, Value.slice x35ba x35bn x35bc, Value.slice x35ca x35cn x35cc]) (h6 : callInf cfg 65 [Value.agg { toList := [Value.int .i64 x35a, Value.slice x35ba x35bn x35bc, Value.slice x35ca x35cn x35cc] }, Value.int .i64 x26, Value.bool false] (List.length H0) H = some (Value.tuple { toList := [Value.slice x37aa x37an x37ac, Value.slice x37ba x37bn x37bc] }, H2)) (h7 : aindexAddr cfg.P 23 (Value.slice x37ba x37bn x37bc) (Value.int .i64 x26) = some (Value.pointer (some ⟨x42p, x42o, some x42l⟩))) (h8 : getCells H2 x42p x42l x42o 1 = some [Value.bool x43]) (h9 : (!x43) = false) (h10 : x7 < 0) (h11 : Fit .i64 (x26 + 1)) : lpOf cfg a37 0 prot H0 ([.pointer (some ⟨x1p, x1o, some x1l⟩), .pointer (some ⟨x3p, x3o, some x3l⟩), .slice x4a x4n x4c, .slice x5a x5n x5c, .int .i64 x7, .int .i64 x25, .int .i64 x26], H) = some (Sum.inl ([Value.pointer (some ⟨x1p, x1o, some x1l⟩), Value.pointer (some ⟨x3p, x3o, some x3l⟩), Value.slice x4a x4n x4c, Value.slice x5a x5n x5c, Value.int .i64 x26, Value.int .i64 x25, Value.int .i64 (x26 + 1)], H2)) :=
  lp_of2 [.e, .b true, .v (.pointer (some ⟨x31p, x31o, some x31l⟩)), .v (.bool x32), .e, .b false, .v (.agg #[.int .i64 x35a, .slice x35ba x35bn x35bc, .slice x35ca x35cn x35cc]), .r (.tuple #[.slice x37aa x37an x37ac, .slice x37ba x37bn x37bc]) H2, .v (.pointer (some ⟨x42p, x42o, some x42l⟩)), .v (.bool x43), .e, .b false, .e, .b true, .b true, .b true, .b true, .b true, .b true, .b true, .b true, .b true, .b true, .b true, .b true, .b true, .b true, .b true, .b true, .b true, .b true, .b true, .b true, .b true, .b true, .b true, .b true, .b true, .b true, .b true, .e] (ai (decide_eq_true h1) (ai h2 (ai h3 (ai h4 (ai h5 (ai h6 (ai h7 (ai h8 (ai h9 (ai (decide_eq_true h10) (ai (decide_eq_true h10) (ai (decide_eq_true h10) (ai (decide_eq_true h10) (ai (decide_eq_true h10) (ai (decide_eq_true h10) (ai (decide_eq_true h10) (ai (decide_eq_true h10) (ai (decide_eq_true h10) (ai (decide_eq_true h10) (ai (decide_eq_true h10) (ai (decide_eq_true h10) (ai (Eq.refl true) (ai (Eq.refl true) (ai (Eq.refl true) (ai (Eq.refl true) (ai (Eq.refl true) (ai (Eq.refl true) (ai (Eq.refl true) (ai (Eq.refl true) (ai (Eq.refl true) (ai (Eq.refl true) (ai (Eq.refl true) (ai (Eq.refl true) (ai (Eq.refl true) (ai (Eq.refl true) (ai (Eq.refl true) (ai h11 (Eq.refl (Sum.inl ([Value.pointer (some ⟨x1p, x1o, some x1l⟩), Value.pointer (some ⟨x3p, x3o, some x3l⟩), Value.slice x4a x4n x4c, Value.slice x5a x5n x5c, Value.int .i64 x26, Value.int .i64 x25, Value.int .i64 (x26 + 1)], H2) : LS ⊕ LO))))))))))))))))))))))))))))))))))))))) (by kernel_rfl)
theorem f37_L0_1 {x1p x1o x1l x3p x3o x3l : Nat} {x4a : Option Addr} {x4n x4c : Nat} {x5a : Option Addr} {x5n x5c : Nat} {x7 x25 x26 : Int} {H0 : AHeap} {prot : Nat} {H : AHeap} {x31p x31o x31l : Nat} {x32 : Bool} {x35a : Int} {x35ba : Option Addr} {x35bn x35bc : Nat} {x35ca : Option Addr} {x35cn x35cc : Nat} {x37aa : Option Addr} {x37an x37ac : Nat} {x37ba : Option Addr} {x37bn x37bc : Nat} {H2 : AHeap} {x42p x42o x42l : Nat} {x43 : Bool} {x50p x50o x50l : Nat} {x51 : ByteArray} {x55p x55o x55l : Nat} {x56 : ByteArray} (h1 : x26 < x25) (h2 : aindexAddr cfg.P 23 (Value.slice x4a x4n x4c) (Value.int .i64 x26) = some (Value.pointer (some ⟨x31p, x31o, some x31l⟩))) (h3 : getCells H x31p x31l x31o 1 = some [Value.bool x32]) (h4 : (!x32) = false) (h5 : getCells H x1p x1l x1o 3 = some [Value.int .i64 x35a, Value.slice x35ba x35bn x35bc, Value.slice x35ca x35cn x35cc]) (h6 : callInf cfg 65 [Value.agg { toList := [Value.int .i64 x35a, Value.slice x35ba x35bn x35bc, Value.slice x35ca x35cn x35cc] }, Value.int .i64 x26, Value.bool false] (List.length H0) H = some (Value.tuple { toList := [Value.slice x37aa x37an x37ac, Value.slice x37ba x37bn x37bc] }, H2)) (h7 : aindexAddr cfg.P 23 (Value.slice x37ba x37bn x37bc) (Value.int .i64 x26) = some (Value.pointer (some ⟨x42p, x42o, some x42l⟩))) (h8 : getCells H2 x42p x42l x42o 1 = some [Value.bool x43]) (h9 : (!x43) = false) (h10 : ¬(x7 < 0)) (h11 : aindexAddr cfg.P 43 (Value.slice x5a x5n x5c) (Value.int .i64 x26) = some (Value.pointer (some ⟨x50p, x50o, some x50l⟩))) (h12 : getCells H2 x50p x50l x50o 1 = some [Value.string x51]) (h13 : aindexAddr cfg.P 43 (Value.slice x5a x5n x5c) (Value.int .i64 x7) = some (Value.pointer (some ⟨x55p, x55o, some x55l⟩))) (h14 : getCells H2 x55p x55l x55o 1 = some [Value.string x56]) (h15 : (↑x51.size : Int) < (↑x56.size : Int)) (h16 : Fit .i64 (x26 + 1)) : lpOf cfg a37 0 prot H0 ([.pointer (some ⟨x1p, x1o, some x1l⟩), .pointer (some ⟨x3p, x3o, some x3l⟩), .slice x4a x4n x4c, .slice x5a x5n x5c, .int .i64 x7, .int .i64 x25, .int .i64 x26], H) = some (Sum.inl ([Value.pointer (some ⟨x1p, x1o, some x1l⟩), Value.pointer (some ⟨x3p, x3o, some x3l⟩), Value.slice x4a x4n x4c, Value.slice x5a x5n x5c, Value.int .i64 x26, Value.int .i64 x25, Value.int .i64 (x26 + 1)], H2)) :=
  lp_of2 [.e, .b true, .v (.pointer (some ⟨x31p, x31o, some x31l⟩)), .v (.bool x32), .e, .b false, .v (.agg #[.int .i64 x35a, .slice x35ba x35bn x35bc, .slice x35ca x35cn x35cc]), .r (.tuple #[.slice x37aa x37an x37ac, .slice x37ba x37bn x37bc]) H2, .v (.pointer (some ⟨x42p, x42o, some x42l⟩)), .v (.bool x43), .e, .b false, .e, .b false, .b false, .b false, .v (.pointer (some ⟨x50p, x50o, some x50l⟩)), .b false, .v (.string x51), .b false, .e, .b false, .b false, .b false, .v (.pointer (some ⟨x55p, x55o, some x55l⟩)), .b false, .v (.string x56), .b false, .e, .b false, .e, .b false, .b true, .b true, .b true, .b true, .b true, .b true, .b true, .b true, .b true, .b true, .b true, .b true, .b true, .b true, .b true, .e] (ai (decide_eq_true h1) (ai h2 (ai h3 (ai h4 (ai h5 (ai h6 (ai h7 (ai h8 (ai h9 (ai (decide_eq_false h10) (ai (decide_eq_false h10) (ai (decide_eq_false h10) (ai h11 (ai (decide_eq_false h10) (ai h12 (ai (decide_eq_false h10) (ai (decide_eq_false h10) (ai (decide_eq_false h10) (ai (decide_eq_false h10) (ai h13 (ai (decide_eq_false h10) (ai h14 (ai (decide_eq_false h10) (ai (decide_eq_false h10) (ai (decide_eq_false h10) (ai (decide_eq_true h15) (ai (decide_eq_true h15) (ai (decide_eq_true h15) (ai (decide_eq_true h15) (ai (decide_eq_true h15) (ai (decide_eq_true h15) (ai (decide_eq_true h15) (ai (decide_eq_true h15) (ai (decide_eq_true h15) (ai (decide_eq_true h15) (ai (decide_eq_true h15) (ai (decide_eq_true h15) (ai (decide_eq_true h15) (ai (decide_eq_true h15) (ai (Eq.refl true) (ai h16 (Eq.refl (Sum.inl ([Value.pointer (some ⟨x1p, x1o, some x1l⟩), Value.pointer (some ⟨x3p, x3o, some x3l⟩), Value.slice x4a x4n x4c, Value.slice x5a x5n x5c, Value.int .i64 x26, Value.int .i64 x25, Value.int .i64 (x26 + 1)], H2) : LS ⊕ LO))))))))))))))))))))))))))))))))))))))))))) (by kernel_rfl)
theorem f37_L0_2 {x1p x1o x1l x3p x3o x3l : Nat} {x4a : Option Addr} {x4n x4c : Nat} {x5a : Option Addr} {x5n x5c : Nat} {x7 x25 x26 : Int} {H0 : AHeap} {prot : Nat} {H : AHeap} {x31p x31o x31l : Nat} {x32 : Bool} {x35a : Int} {x35ba : Option Addr} {x35bn x35bc : Nat} {x35ca : Option Addr} {x35cn x35cc : Nat} {x37aa : Option Addr} {x37an x37ac : Nat} {x37ba : Option Addr} {x37bn x37bc : Nat} {H2 : AHeap} {x42p x42o x42l : Nat} {x43 : Bool} {x50p x50o x50l : Nat} {x51 : ByteArray} {x55p x55o x55l : Nat} {x56 : ByteArray} {x63p x63o x63l : Nat} {x64 : ByteArray} {x68p x68o x68l : Nat} {x69 : ByteArray} {x75p x75o x75l : Nat} {x76 : ByteArray} {x79p x79o x79l : Nat} {x80 : ByteArray} (h1 : x26 < x25) (h2 : aindexAddr cfg.P 23 (Value.slice x4a x4n x4c) (Value.int .i64 x26) = some (Value.pointer (some ⟨x31p, x31o, some x31l⟩))) (h3 : getCells H x31p x31l x31o 1 = some [Value.bool x32]) (h4 : (!x32) = false) (h5 : getCells H x1p x1l x1o 3 = some [Value.int .i64 x35a, Value.slice x35ba x35bn x35bc, Value.slice x35ca x35cn x35cc]) (h6 : callInf cfg 65 [Value.agg { toList := [Value.int .i64 x35a, Value.slice x35ba x35bn x35bc, Value.slice x35ca x35cn x35cc] }, Value.int .i64 x26, Value.bool false] (List.length H0) H = some (Value.tuple { toList := [Value.slice x37aa x37an x37ac, Value.slice x37ba x37bn x37bc] }, H2)) (h7 : aindexAddr cfg.P 23 (Value.slice x37ba x37bn x37bc) (Value.int .i64 x26) = some (Value.pointer (some ⟨x42p, x42o, some x42l⟩))) (h8 : getCells H2 x42p x42l x42o 1 = some [Value.bool x43]) (h9 : (!x43) = false) (h10 : ¬(x7 < 0)) (h11 : aindexAddr cfg.P 43 (Value.slice x5a x5n x5c) (Value.int .i64 x26) = some (Value.pointer (some ⟨x50p, x50o, some x50l⟩))) (h12 : getCells H2 x50p x50l x50o 1 = some [Value.string x51]) (h13 : aindexAddr cfg.P 43 (Value.slice x5a x5n x5c) (Value.int .i64 x7) = some (Value.pointer (some ⟨x55p, x55o, some x55l⟩))) (h14 : getCells H2 x55p x55l x55o 1 = some [Value.string x56]) (h15 : ¬((↑x51.size : Int) < (↑x56.size : Int))) (h16 : aindexAddr cfg.P 43 (Value.slice x5a x5n x5c) (Value.int .i64 x26) = some (Value.pointer (some ⟨x63p, x63o, some x63l⟩))) (h17 : getCells H2 x63p x63l x63o 1 = some [Value.string x64]) (h18 : aindexAddr cfg.P 43 (Value.slice x5a x5n x5c) (Value.int .i64 x7) = some (Value.pointer (some ⟨x68p, x68o, some x68l⟩))) (h19 : getCells H2 x68p x68l x68o 1 = some [Value.string x69]) (h20 : ((↑x64.size : Int) == (↑x69.size : Int)) = true) (h21 : aindexAddr cfg.P 43 (Value.slice x5a x5n x5c) (Value.int .i64 x26) = some (Value.pointer (some ⟨x75p, x75o, some x75l⟩))) (h22 : getCells H2 x75p x75l x75o 1 = some [Value.string x76]) (h23 : aindexAddr cfg.P 43 (Value.slice x5a x5n x5c) (Value.int .i64 x7) = some (Value.pointer (some ⟨x79p, x79o, some x79l⟩))) (h24 : getCells H2 x79p x79l x79o 1 = some [Value.string x80]) (h25 : Op.bytesLess x76.toList x80.toList = true) (h26 : Fit .i64 (x26 + 1)) : lpOf cfg a37 0 prot H0 ([.pointer (some ⟨x1p, x1o, some x1l⟩), .pointer (some ⟨x3p, x3o, some x3l⟩), .slice x4a x4n x4c, .slice x5a x5n x5c, .int .i64 x7, .int .i64 x25, .int .i64 x26], H) = some (Sum.inl ([Value.pointer (some ⟨x1p, x1o, some x1l⟩), Value.pointer (some ⟨x3p, x3o, some x3l⟩), Value.slice x4a x4n x4c, Value.slice x5a x5n x5c, Value.int .i64 x26, Value.int .i64 x25, Value.int .i64 (x26 + 1)], H2)) :=
  lp_of2 [.e, .b true, .v (.pointer (some ⟨x31p, x31o, some x31l⟩)), .v (.bool x32), .e, .b false, .v (.agg #[.int .i64 x35a, .slice x35ba x35bn x35bc, .slice x35ca x35cn x35cc]), .r (.tuple #[.slice x37aa x37an x37ac, .slice x37ba x37bn x37bc]) H2, .v (.pointer (some ⟨x42p, x42o, some x42l⟩)), .v (.bool x43), .e, .b false, .e, .b false, .b false, .b false, .v (.pointer (some ⟨x50p, x50o, some x50l⟩)), .b false, .v (.string x51), .b false, .e, .b false, .b false, .b false, .v (.pointer (some ⟨x55p, x55o, some x55l⟩)), .b false, .v (.string x56), .b false, .e, .b false, .e, .b false, .b false, .b false, .b false, .v (.pointer (some ⟨x63p, x63o, some x63l⟩)), .b false, .v (.string x64), .b false, .e, .b false, .b false, .b false, .v (.pointer (some ⟨x68p, x68o, some x68l⟩)), .b false, .v (.string x69), .b false, .e, .b false, .e, .b false, .b true, .b true, .b true, .v (.pointer (some ⟨x75p, x75o, some x75l⟩)), .b true, .v (.string x76), .b true, .b true, .b true, .v (.pointer (some ⟨x79p, x79o, some x79l⟩)), .b true, .v (.string x80), .b true, .e, .b false, .b true, .b false, .b true, .e] (ai (decide_eq_true h1) (ai h2 (ai h3 (ai h4 (ai h5 (ai h6 (ai h7 (ai h8 (ai h9 (ai (decide_eq_false h10) (ai (decide_eq_false h10) (ai (decide_eq_false h10) (ai h11 (ai (decide_eq_false h10) (ai h12 (ai (decide_eq_false h10) (ai (decide_eq_false h10) (ai (decide_eq_false h10) (ai (decide_eq_false h10) (ai h13 (ai (decide_eq_false h10) (ai h14 (ai (decide_eq_false h10) (ai (decide_eq_false h10) (ai (decide_eq_false h10) (ai (decide_eq_false h15) (ai (decide_eq_false h15) (ai (decide_eq_false h15) (ai h16 (ai (decide_eq_false h15) (ai h17 (ai (decide_eq_false h15) (ai (decide_eq_false h15) (ai (decide_eq_false h15) (ai (decide_eq_false h15) (ai h18 (ai (decide_eq_false h15) (ai h19 (ai (decide_eq_false h15) (ai (decide_eq_false h15) (ai (decide_eq_false h15) (ai h20 (ai h20 (ai h20 (ai h21 (ai h20 (ai h22 (ai h20 (ai h20 (ai h20 (ai h23 (ai h20 (ai h24 (ai h20 (ai (decide_eq_false h15) (ai h20 (ai (decide_eq_false h15) (ai h25 (ai h26 (Eq.refl (Sum.inl ([Value.pointer (some ⟨x1p, x1o, some x1l⟩), Value.pointer (some ⟨x3p, x3o, some x3l⟩), Value.slice x4a x4n x4c, Value.slice x5a x5n x5c, Value.int .i64 x26, Value.int .i64 x25, Value.int .i64 (x26 + 1)], H2) : LS ⊕ LO))))))))))))))))))))))))))))))))))))))))))))))))))))))))))))) (by kernel_rfl)
theorem f37_L0_3 {x1p x1o x1l x3p x3o x3l : Nat} {x4a : Option Addr} {x4n x4c : Nat} {x5a : Option Addr} {x5n x5c : Nat} {x7 x25 x26 : Int} {H0 : AHeap} {prot : Nat} {H : AHeap} {x31p x31o x31l : Nat} {x32 : Bool} {x35a : Int} {x35ba : Option Addr} {x35bn x35bc : Nat} {x35ca : Option Addr} {x35cn x35cc : Nat} {x37aa : Option Addr} {x37an x37ac : Nat} {x37ba : Option Addr} {x37bn x37bc : Nat} {H2 : AHeap} {x42p x42o x42l : Nat} {x43 : Bool} {x50p x50o x50l : Nat} {x51 : ByteArray} {x55p x55o x55l : Nat} {x56 : ByteArray} {x63p x63o x63l : Nat} {x64 : ByteArray} {x68p x68o x68l : Nat} {x69 : ByteArray} {x75p x75o x75l : Nat} {x76 : ByteArray} {x79p x79o x79l : Nat} {x80 : ByteArray} (h1 : x26 < x25) (h2 : aindexAddr cfg.P 23 (Value.slice x4a x4n x4c) (Value.int .i64 x26) = some (Value.pointer (some ⟨x31p, x31o, some x31l⟩))) (h3 : getCells H x31p x31l x31o 1 = some [Value.bool x32]) (h4 : (!x32) = false) (h5 : getCells H x1p x1l x1o 3 = some [Value.int .i64 x35a, Value.slice x35ba x35bn x35bc, Value.slice x35ca x35cn x35cc]) (h6 : callInf cfg 65 [Value.agg { toList := [Value.int .i64 x35a, Value.slice x35ba x35bn x35bc, Value.slice x35ca x35cn x35cc] }, Value.int .i64 x26, Value.bool false] (List.length H0) H = some (Value.tuple { toList := [Value.slice x37aa x37an x37ac, Value.slice x37ba x37bn x37bc] }, H2)) (h7 : aindexAddr cfg.P 23 (Value.slice x37ba x37bn x37bc) (Value.int .i64 x26) = some (Value.pointer (some ⟨x42p, x42o, some x42l⟩))) (h8 : getCells H2 x42p x42l x42o 1 = some [Value.bool x43]) (h9 : (!x43) = false) (h10 : ¬(x7 < 0)) (h11 : aindexAddr cfg.P 43 (Value.slice x5a x5n x5c) (Value.int .i64 x26) = some (Value.pointer (some ⟨x50p, x50o, some x50l⟩))) (h12 : getCells H2 x50p x50l x50o 1 = some [Value.string x51]) (h13 : aindexAddr cfg.P 43 (Value.slice x5a x5n x5c) (Value.int .i64 x7) = some (Value.pointer (some ⟨x55p, x55o, some x55l⟩))) (h14 : getCells H2 x55p x55l x55o 1 = some [Value.string x56]) (h15 : ¬((↑x51.size : Int) < (↑x56.size : Int))) (h16 : aindexAddr cfg.P 43 (Value.slice x5a x5n x5c) (Value.int .i64 x26) = some (Value.pointer (some ⟨x63p, x63o, some x63l⟩))) (h17 : getCells H2 x63p x63l x63o 1 = some [Value.string x64]) (h18 : aindexAddr cfg.P 43 (Value.slice x5a x5n x5c) (Value.int .i64 x7) = some (Value.pointer (some ⟨x68p, x68o, some x68l⟩))) (h19 : getCells H2 x68p x68l x68o 1 = some [Value.string x69]) (h20 : ((↑x64.size : Int) == (↑x69.size : Int)) = true) (h21 : aindexAddr cfg.P 43 (Value.slice x5a x5n x5c) (Value.int .i64 x26) = some (Value.pointer (some ⟨x75p, x75o, some x75l⟩))) (h22 : getCells H2 x75p x75l x75o 1 = some [Value.string x76]) (h23 : aindexAddr cfg.P 43 (Value.slice x5a x5n x5c) (Value.int .i64 x7) = some (Value.pointer (some ⟨x79p, x79o, some x79l⟩))) (h24 : getCells H2 x79p x79l x79o 1 = some [Value.string x80]) (h25 : Op.bytesLess x76.toList x80.toList = false) (h26 : Fit .i64 (x26 + 1)) : lpOf cfg a37 0 prot H0 ([.pointer (some ⟨x1p, x1o, some x1l⟩), .pointer (some ⟨x3p, x3o, some x3l⟩), .slice x4a x4n x4c, .slice x5a x5n x5c, .int .i64 x7, .int .i64 x25, .int .i64 x26], H) = some (Sum.inl ([Value.pointer (some ⟨x1p, x1o, some x1l⟩), Value.pointer (some ⟨x3p, x3o, some x3l⟩), Value.slice x4a x4n x4c, Value.slice x5a x5n x5c, Value.int .i64 x7, Value.int .i64 x25, Value.int .i64 (x26 + 1)], H2)) :=
  lp_of2 [.e, .b true, .v (.pointer (some ⟨x31p, x31o, some x31l⟩)), .v (.bool x32), .e, .b false, .v (.agg #[.int .i64 x35a, .slice x35ba x35bn x35bc, .slice x35ca x35cn x35cc]), .r (.tuple #[.slice x37aa x37an x37ac, .slice x37ba x37bn x37bc]) H2, .v (.pointer (some ⟨x42p, x42o, some x42l⟩)), .v (.bool x43), .e, .b false, .e, .b false, .b false, .b false, .v (.pointer (some ⟨x50p, x50o, some x50l⟩)), .b false, .v (.string x51), .b false, .e, .b false, .b false, .b false, .v (.pointer (some ⟨x55p, x55o, some x55l⟩)), .b false, .v (.string x56), .b false, .e, .b false, .e, .b false, .b false, .b false, .b false, .v (.pointer (some ⟨x63p, x63o, some x63l⟩)), .b false, .v (.string x64), .b false, .e, .b false, .b false, .b false, .v (.pointer (some ⟨x68p, x68o, some x68l⟩)), .b false, .v (.string x69), .b false, .e, .b false, .e, .b false, .b true, .b true, .b true, .v (.pointer (some ⟨x75p, x75o, some x75l⟩)), .b true, .v (.string x76), .b true, .b true, .b true, .v (.pointer (some ⟨x79p, x79o, some x79l⟩)), .b true, .v (.string x80), .b true, .e, .b false, .b true, .b false, .b false, .e] (ai (decide_eq_true h1) (ai h2 (ai h3 (ai h4 (ai h5 (ai h6 (ai h7 (ai h8 (ai h9 (ai (decide_eq_false h10) (ai (decide_eq_false h10) (ai (decide_eq_false h10) (ai h11 (ai (decide_eq_false h10) (ai h12 (ai (decide_eq_false h10) (ai (decide_eq_false h10) (ai (decide_eq_false h10) (ai (decide_eq_false h10) (ai h13 (ai (decide_eq_false h10) (ai h14 (ai (decide_eq_false h10) (ai (decide_eq_false h10) (ai (decide_eq_false h10) (ai (decide_eq_false h15) (ai (decide_eq_false h15) (ai (decide_eq_false h15) (ai h16 (ai (decide_eq_false h15) (ai h17 (ai (decide_eq_false h15) (ai (decide_eq_false h15) (ai (decide_eq_false h15) (ai (decide_eq_false h15) (ai h18 (ai (decide_eq_false h15) (ai h19 (ai (decide_eq_false h15) (ai (decide_eq_false h15) (ai (decide_eq_false h15) (ai h20 (ai h20 (ai h20 (ai h21 (ai h20 (ai h22 (ai h20 (ai h20 (ai h20 (ai h23 (ai h20 (ai h24 (ai h20 (ai (decide_eq_false h15) (ai h20 (ai (decide_eq_false h15) (ai h25 (ai h26 (Eq.refl (Sum.inl ([Value.pointer (some ⟨x1p, x1o, some x1l⟩), Value.pointer (some ⟨x3p, x3o, some x3l⟩), Value.slice x4a x4n x4c, Value.slice x5a x5n x5c, Value.int .i64 x7, Value.int .i64 x25, Value.int .i64 (x26 + 1)], H2) : LS ⊕ LO))))))))))))))))))))))))))))))))))))))))))))))))))))))))))))) (by kernel_rfl)
theorem f37_L0_4 {x1p x1o x1l x3p x3o x3l : Nat} {x4a : Option Addr} {x4n x4c : Nat} {x5a : Option Addr} {x5n x5c : Nat} {x7 x25 x26 : Int} {H0 : AHeap} {prot : Nat} {H : AHeap} {x31p x31o x31l : Nat} {x32 : Bool} {x35a : Int} {x35ba : Option Addr} {x35bn x35bc : Nat} {x35ca : Option Addr} {x35cn x35cc : Nat} {x37aa : Option Addr} {x37an x37ac : Nat} {x37ba : Option Addr} {x37bn x37bc : Nat} {H2 : AHeap} {x42p x42o x42l : Nat} {x43 : Bool} {x50p x50o x50l : Nat} {x51 : ByteArray} {x55p x55o x55l : Nat} {x56 : ByteArray} {x63p x63o x63l : Nat} {x64 : ByteArray} {x68p x68o x68l : Nat} {x69 : ByteArray} (h1 : x26 < x25) (h2 : aindexAddr cfg.P 23 (Value.slice x4a x4n x4c) (Value.int .i64 x26) = some (Value.pointer (some ⟨x31p, x31o, some x31l⟩))) (h3 : getCells H x31p x31l x31o 1 = some [Value.bool x32]) (h4 : (!x32) = false) (h5 : getCells H x1p x1l x1o 3 = some [Value.int .i64 x35a, Value.slice x35ba x35bn x35bc, Value.slice x35ca x35cn x35cc]) (h6 : callInf cfg 65 [Value.agg { toList := [Value.int .i64 x35a, Value.slice x35ba x35bn x35bc, Value.slice x35ca x35cn x35cc] }, Value.int .i64 x26, Value.bool false] (List.length H0) H = some (Value.tuple { toList := [Value.slice x37aa x37an x37ac, Value.slice x37ba x37bn x37bc] }, H2)) (h7 : aindexAddr cfg.P 23 (Value.slice x37ba x37bn x37bc) (Value.int .i64 x26) = some (Value.pointer (some ⟨x42p, x42o, some x42l⟩))) (h8 : getCells H2 x42p x42l x42o 1 = some [Value.bool x43]) (h9 : (!x43) = false) (h10 : ¬(x7 < 0)) (h11 : aindexAddr cfg.P 43 (Value.slice x5a x5n x5c) (Value.int .i64 x26) = some (Value.pointer (some ⟨x50p, x50o, some x50l⟩))) (h12 : getCells H2 x50p x50l x50o 1 = some [Value.string x51]) (h13 : aindexAddr cfg.P 43 (Value.slice x5a x5n x5c) (Value.int .i64 x7) = some (Value.pointer (some ⟨x55p, x55o, some x55l⟩))) (h14 : getCells H2 x55p x55l x55o 1 = some [Value.string x56]) (h15 : ¬((↑x51.size : Int) < (↑x56.size : Int))) (h16 : aindexAddr cfg.P 43 (Value.slice x5a x5n x5c) (Value.int .i64 x26) = some (Value.pointer (some ⟨x63p, x63o, some x63l⟩))) (h17 : getCells H2 x63p x63l x63o 1 = some [Value.string x64]) (h18 : aindexAddr cfg.P 43 (Value.slice x5a x5n x5c) (Value.int .i64 x7) = some (Value.pointer (some ⟨x68p, x68o, some x68l⟩))) (h19 : getCells H2 x68p x68l x68o 1 = some [Value.string x69]) (h20 : ((↑x64.size : Int) == (↑x69.size : Int)) = false) (h21 : Fit .i64 (x26 + 1)) : lpOf cfg a37 0 prot H0 ([.pointer (some ⟨x1p, x1o, some x1l⟩), .pointer (some ⟨x3p, x3o, some x3l⟩), .slice x4a x4n x4c, .slice x5a x5n x5c, .int .i64 x7, .int .i64 x25, .int .i64 x26], H) = some (Sum.inl ([Value.pointer (some ⟨x1p, x1o, some x1l⟩), Value.pointer (some ⟨x3p, x3o, some x3l⟩), Value.slice x4a x4n x4c, Value.slice x5a x5n x5c, Value.int .i64 x7, Value.int .i64 x25, Value.int .i64 (x26 + 1)], H2)) :=
  lp_of2 [.e, .b true, .v (.pointer (some ⟨x31p, x31o, some x31l⟩)), .v (.bool x32), .e, .b false, .v (.agg #[.int .i64 x35a, .slice x35ba x35bn x35bc, .slice x35ca x35cn x35cc]), .r (.tuple #[.slice x37aa x37an x37ac, .slice x37ba x37bn x37bc]) H2, .v (.pointer (some ⟨x42p, x42o, some x42l⟩)), .v (.bool x43), .e, .b false, .e, .b false, .b false, .b false, .v (.pointer (some ⟨x50p, x50o, some x50l⟩)), .b false, .v (.string x51), .b false, .e, .b false, .b false, .b false, .v (.pointer (some ⟨x55p, x55o, some x55l⟩)), .b false, .v (.string x56), .b false, .e, .b false, .e, .b false, .b false, .b false, .b false, .v (.pointer (some ⟨x63p, x63o, some x63l⟩)), .b false, .v (.string x64), .b false, .e, .b false, .b false, .b false, .v (.pointer (some ⟨x68p, x68o, some x68l⟩)), .b false, .v (.string x69), .b false, .e, .b false, .e, .b false, .b false, .b false, .b false, .b false, .b false, .b false, .b false, .b false, .b false, .b false, .b false, .b false, .b false, .e] (ai (decide_eq_true h1) (ai h2 (ai h3 (ai h4 (ai h5 (ai h6 (ai h7 (ai h8 (ai h9 (ai (decide_eq_false h10) (ai (decide_eq_false h10) (ai (decide_eq_false h10) (ai h11 (ai (decide_eq_false h10) (ai h12 (ai (decide_eq_false h10) (ai (decide_eq_false h10) (ai (decide_eq_false h10) (ai (decide_eq_false h10) (ai h13 (ai (decide_eq_false h10) (ai h14 (ai (decide_eq_false h10) (ai (decide_eq_false h10) (ai (decide_eq_false h10) (ai (decide_eq_false h15) (ai (decide_eq_false h15) (ai (decide_eq_false h15) (ai h16 (ai (decide_eq_false h15) (ai h17 (ai (decide_eq_false h15) (ai (decide_eq_false h15) (ai (decide_eq_false h15) (ai (decide_eq_false h15) (ai h18 (ai (decide_eq_false h15) (ai h19 (ai (decide_eq_false h15) (ai (decide_eq_false h15) (ai (decide_eq_false h15) (ai h20 (ai h20 (ai h20 (ai h20 (ai h20 (ai h20 (ai h20 (ai h20 (ai h20 (ai (decide_eq_false h15) (ai h20 (ai (decide_eq_false h15) (ai (Eq.refl false) (ai h21 (Eq.refl (Sum.inl ([Value.pointer (some ⟨x1p, x1o, some x1l⟩), Value.pointer (some ⟨x3p, x3o, some x3l⟩), Value.slice x4a x4n x4c, Value.slice x5a x5n x5c, Value.int .i64 x7, Value.int .i64 x25, Value.int .i64 (x26 + 1)], H2) : LS ⊕ LO))))))))))))))))))))))))))))))))))))))))))))))))))))))))) (by kernel_rfl)
theorem f37_L0_5 {x1p x1o x1l x3p x3o x3l : Nat} {x4a : Option Addr} {x4n x4c : Nat} {x5a : Option Addr} {x5n x5c : Nat} {x7 x25 x26 : Int} {H0 : AHeap} {prot : Nat} {H : AHeap} {x31p x31o x31l : Nat} {x32 : Bool} {x35a : Int} {x35ba : Option Addr} {x35bn x35bc : Nat} {x35ca : Option Addr} {x35cn x35cc : Nat} {x37aa : Option Addr} {x37an x37ac : Nat} {x37ba : Option Addr} {x37bn x37bc : Nat} {H2 : AHeap} {x42p x42o x42l : Nat} {x43 : Bool} (h1 : x26 < x25) (h2 : aindexAddr cfg.P 23 (Value.slice x4a x4n x4c) (Value.int .i64 x26) = some (Value.pointer (some ⟨x31p, x31o, some x31l⟩))) (h3 : getCells H x31p x31l x31o 1 = some [Value.bool x32]) (h4 : (!x32) = false) (h5 : getCells H x1p x1l x1o 3 = some [Value.int .i64 x35a, Value.slice x35ba x35bn x35bc, Value.slice x35ca x35cn x35cc]) (h6 : callInf cfg 65 [Value.agg { toList := [Value.int .i64 x35a, Value.slice x35ba x35bn x35bc, Value.slice x35ca x35cn x35cc] }, Value.int .i64 x26, Value.bool false] (List.length H0) H = some (Value.tuple { toList := [Value.slice x37aa x37an x37ac, Value.slice x37ba x37bn x37bc] }, H2)) (h7 : aindexAddr cfg.P 23 (Value.slice x37ba x37bn x37bc) (Value.int .i64 x26) = some (Value.pointer (some ⟨x42p, x42o, some x42l⟩))) (h8 : getCells H2 x42p x42l x42o 1 = some [Value.bool x43]) (h9 : (!x43) = true) (h10 : Fit .i64 (x26 + 1)) : lpOf cfg a37 0 prot H0 ([.pointer (some ⟨x1p, x1o, some x1l⟩), .pointer (some ⟨x3p, x3o, some x3l⟩), .slice x4a x4n x4c, .slice x5a x5n x5c, .int .i64 x7, .int .i64 x25, .int .i64 x26], H) = some (Sum.inl ([Value.pointer (some ⟨x1p, x1o, some x1l⟩), Value.pointer (some ⟨x3p, x3o, some x3l⟩), Value.slice x4a x4n x4c, Value.slice x5a x5n x5c, Value.int .i64 x7, Value.int .i64 x25, Value.int .i64 (x26 + 1)], H2)) :=
  lp_of2 [.e, .b true, .v (.pointer (some ⟨x31p, x31o, some x31l⟩)), .v (.bool x32), .e, .b false, .v (.agg #[.int .i64 x35a, .slice x35ba x35bn x35bc, .slice x35ca x35cn x35cc]), .r (.tuple #[.slice x37aa x37an x37ac, .slice x37ba x37bn x37bc]) H2, .v (.pointer (some ⟨x42p, x42o, some x42l⟩)), .v (.bool x43), .e, .b true, .e] (ai (decide_eq_true h1) (ai h2 (ai h3 (ai h4 (ai h5 (ai h6 (ai h7 (ai h8 (ai h9 (ai h10 (Eq.refl (Sum.inl ([Value.pointer (some ⟨x1p, x1o, some x1l⟩), Value.pointer (some ⟨x3p, x3o, some x3l⟩), Value.slice x4a x4n x4c, Value.slice x5a x5n x5c, Value.int .i64 x7, Value.int .i64 x25, Value.int .i64 (x26 + 1)], H2) : LS ⊕ LO)))))))))))) (by kernel_rfl)
theorem f37_L0_6 {x1p x1o x1l x3p x3o x3l : Nat} {x4a : Option Addr} {x4n x4c : Nat} {x5a : Option Addr} {x5n x5c : Nat} {x7 x25 x26 : Int} {H0 : AHeap} {prot : Nat} {H : AHeap} {x31p x31o x31l : Nat} {x32 : Bool} (h1 : x26 < x25) (h2 : aindexAddr cfg.P 23 (Value.slice x4a x4n x4c) (Value.int .i64 x26) = some (Value.pointer (some ⟨x31p, x31o, some x31l⟩))) (h3 : getCells H x31p x31l x31o 1 = some [Value.bool x32]) (h4 : (!x32) = true) (h5 : Fit .i64 (x26 + 1)) : lpOf cfg a37 0 prot H0 ([.pointer (some ⟨x1p, x1o, some x1l⟩), .pointer (some ⟨x3p, x3o, some x3l⟩), .slice x4a x4n x4c, .slice x5a x5n x5c, .int .i64 x7, .int .i64 x25, .int .i64 x26], H) = some (Sum.inl ([Value.pointer (some ⟨x1p, x1o, some x1l⟩), Value.pointer (some ⟨x3p, x3o, some x3l⟩), Value.slice x4a x4n x4c, Value.slice x5a x5n x5c, Value.int .i64 x7, Value.int .i64 x25, Value.int .i64 (x26 + 1)], H)) :=
  lp_of2 [.e, .b true, .v (.pointer (some ⟨x31p, x31o, some x31l⟩)), .v (.bool x32), .e, .b true, .e] (ai (decide_eq_true h1) (ai h2 (ai h3 (ai h4 (ai h5 (Eq.refl (Sum.inl ([Value.pointer (some ⟨x1p, x1o, some x1l⟩), Value.pointer (some ⟨x3p, x3o, some x3l⟩), Value.slice x4a x4n x4c, Value.slice x5a x5n x5c, Value.int .i64 x7, Value.int .i64 x25, Value.int .i64 (x26 + 1)], H) : LS ⊕ LO))))))) (by kernel_rfl)
theorem f37_L0_7 {x1p x1o x1l x3p x3o x3l : Nat} {x4a : Option Addr} {x4n x4c : Nat} {x5a : Option Addr} {x5n x5c : Nat} {x7 x25 x26 : Int} {H0 : AHeap} {prot : Nat} {H : AHeap} (h1 : ¬(x26 < x25)) : lpOf cfg a37 0 prot H0 ([.pointer (some ⟨x1p, x1o, some x1l⟩), .pointer (some ⟨x3p, x3o, some x3l⟩), .slice x4a x4n x4c, .slice x5a x5n x5c, .int .i64 x7, .int .i64 x25, .int .i64 x26], H) = some (Sum.inr (Ex.exit 0, [Value.pointer (some ⟨x1p, x1o, some x1l⟩), Value.pointer (some ⟨x3p, x3o, some x3l⟩), Value.slice x5a x5n x5c, Value.int .i64 x7], H)) :=
  lp_of2 [.e, .b false] (ai (decide_eq_false h1) (Eq.refl (Sum.inr (Ex.exit 0, [Value.pointer (some ⟨x1p, x1o, some x1l⟩), Value.pointer (some ⟨x3p, x3o, some x3l⟩), Value.slice x5a x5n x5c, Value.int .i64 x7], H) : LS ⊕ LO))) (by kernel_rfl)
theorem f37_L1_0 {x1p x1o x1l x3p x3o x3l : Nat} {x5a : Option Addr} {x5n x5c : Nat} {x7 : Int} {x11a : Option Addr} {x11n x11c : Nat} {x13a : Option Addr} {x13n x13c : Nat} {x14a : Option Addr} {x14n x14c : Nat} {x15 x103 x104 : Int} {H0 : AHeap} {prot : Nat} {H : AHeap} {x108a : Option Addr} {x108n x108c x110p x110o x110l : Nat} {x111 : Bool} {x115p x115o x115l : Nat} {x116 : Bool} (h1 : x104 < x103) (h2 : getCells H x1p x1l (x1o + 2) 1 = some [Value.slice x108a x108n x108c]) (h3 : aindexAddr cfg.P 23 (Value.slice x108a x108n x108c) (Value.int .i64 x104) = some (Value.pointer (some ⟨x110p, x110o, some x110l⟩))) (h4 : getCells H x110p x110l x110o 1 = some [Value.bool x111]) (h5 : x111 = true) (h6 : aindexAddr cfg.P 23 (Value.slice x14a x14n x14c) (Value.int .i64 x104) = some (Value.pointer (some ⟨x115p, x115o, some x115l⟩))) (h7 : getCells H x115p x115l x115o 1 = some [Value.bool x116]) (h8 : x116 = true) (h9 : x15 < 0) (h10 : Fit .i64 (x104 + 1)) : lpOf cfg a37 1 prot H0 ([.pointer (some ⟨x1p, x1o, some x1l⟩), .pointer (some ⟨x3p, x3o, some x3l⟩), .slice x5a x5n x5c, .int .i64 x7, .slice x11a x11n x11c, .slice x13a x13n x13c, .slice x14a x14n x14c, .int .i64 x15, .int .i64 x103, .int .i64 x104], H) = some (Sum.inl ([Value.pointer (some ⟨x1p, x1o, some x1l⟩), Value.pointer (some ⟨x3p, x3o, some x3l⟩), Value.slice x5a x5n x5c, Value.int .i64 x7, Value.slice x11a x11n x11c, Value.slice x13a x13n x13c, Value.slice x14a x14n x14c, Value.int .i64 x104, Value.int .i64 x103, Value.int .i64 (x104 + 1)], H)) :=
  lp_of2 [.e, .b true, .v (.slice x108a x108n x108c), .v (.pointer (some ⟨x110p, x110o, some x110l⟩)), .v (.bool x111), .b true, .b true, .b true, .v (.pointer (some ⟨x115p, x115o, some x115l⟩)), .b true, .v (.bool x116), .b true, .b true, .b true, .e, .b true, .b true, .b true, .b true, .b true, .b true, .b true, .b true, .b true, .b true, .b true, .b true, .b true, .b true, .b true, .b true, .b true, .b true, .b true, .b true, .b true, .b true, .b true, .b true, .b true, .b true, .b true, .b true, .b true, .b true, .b true, .b true, .e] (ai (decide_eq_true h1) (ai h2 (ai h3 (ai h4 (ai h5 (ai h5 (ai h5 (ai h6 (ai h5 (ai h7 (ai h5 (ai h8 (ai h8 (ai h8 (ai (decide_eq_true h9) (ai (decide_eq_true h9) (ai (decide_eq_true h9) (ai (decide_eq_true h9) (ai (decide_eq_true h9) (ai (decide_eq_true h9) (ai (decide_eq_true h9) (ai (decide_eq_true h9) (ai (decide_eq_true h9) (ai (decide_eq_true h9) (ai (decide_eq_true h9) (ai h8 (ai (decide_eq_true h9) (ai h8 (ai (Eq.refl true) (ai (Eq.refl true) (ai (Eq.refl true) (ai (Eq.refl true) (ai (Eq.refl true) (ai (Eq.refl true) (ai (Eq.refl true) (ai (Eq.refl true) (ai (Eq.refl true) (ai (Eq.refl true) (ai (Eq.refl true) (ai (Eq.refl true) (ai (Eq.refl true) (ai h8 (ai (Eq.refl true) (ai h8 (ai (Eq.refl true) (ai h10 (Eq.refl (Sum.inl ([Value.pointer (some ⟨x1p, x1o, some x1l⟩), Value.pointer (some ⟨x3p, x3o, some x3l⟩), Value.slice x5a x5n x5c, Value.int .i64 x7, Value.slice x11a x11n x11c, Value.slice x13a x13n x13c, Value.slice x14a x14n x14c, Value.int .i64 x104, Value.int .i64 x103, Value.int .i64 (x104 + 1)], H) : LS ⊕ LO)))))))))))))))))))))))))))))))))))))))))))))))) (by kernel_rfl)
theorem f37_L1_1 {x1p x1o x1l x3p x3o x3l : Nat} {x5a : Option Addr} {x5n x5c : Nat} {x7 : Int} {x11a : Option Addr} {x11n x11c : Nat} {x13a : Option Addr} {x13n x13c : Nat} {x14a : Option Addr} {x14n x14c : Nat} {x15 x103 x104 : Int} {H0 : AHeap} {prot : Nat} {H : AHeap} {x108a : Option Addr} {x108n x108c x110p x110o x110l : Nat} {x111 : Bool} {x115p x115o x115l : Nat} {x116 : Bool} {x124p x124o x124l : Nat} {x125 : ByteArray} {x129p x129o x129l : Nat} {x130 : ByteArray} (h1 : x104 < x103) (h2 : getCells H x1p x1l (x1o + 2) 1 = some [Value.slice x108a x108n x108c]) (h3 : aindexAddr cfg.P 23 (Value.slice x108a x108n x108c) (Value.int .i64 x104) = some (Value.pointer (some ⟨x110p, x110o, some x110l⟩))) (h4 : getCells H x110p x110l x110o 1 = some [Value.bool x111]) (h5 : x111 = true) (h6 : aindexAddr cfg.P 23 (Value.slice x14a x14n x14c) (Value.int .i64 x104) = some (Value.pointer (some ⟨x115p, x115o, some x115l⟩))) (h7 : getCells H x115p x115l x115o 1 = some [Value.bool x116]) (h8 : x116 = true) (h9 : ¬(x15 < 0)) (h10 : aindexAddr cfg.P 43 (Value.slice x13a x13n x13c) (Value.int .i64 x104) = some (Value.pointer (some ⟨x124p, x124o, some x124l⟩))) (h11 : getCells H x124p x124l x124o 1 = some [Value.string x125]) (h12 : aindexAddr cfg.P 43 (Value.slice x13a x13n x13c) (Value.int .i64 x15) = some (Value.pointer (some ⟨x129p, x129o, some x129l⟩))) (h13 : getCells H x129p x129l x129o 1 = some [Value.string x130]) (h14 : (↑x125.size : Int) < (↑x130.size : Int)) (h15 : Fit .i64 (x104 + 1)) : lpOf cfg a37 1 prot H0 ([.pointer (some ⟨x1p, x1o, some x1l⟩), .pointer (some ⟨x3p, x3o, some x3l⟩), .slice x5a x5n x5c, .int .i64 x7, .slice x11a x11n x11c, .slice x13a x13n x13c, .slice x14a x14n x14c, .int .i64 x15, .int .i64 x103, .int .i64 x104], H) = some (Sum.inl ([Value.pointer (some ⟨x1p, x1o, some x1l⟩), Value.pointer (some ⟨x3p, x3o, some x3l⟩), Value.slice x5a x5n x5c, Value.int .i64 x7, Value.slice x11a x11n x11c, Value.slice x13a x13n x13c, Value.slice x14a x14n x14c, Value.int .i64 x104, Value.int .i64 x103, Value.int .i64 (x104 + 1)], H)) :=
  lp_of2 [.e, .b true, .v (.slice x108a x108n x108c), .v (.pointer (some ⟨x110p, x110o, some x110l⟩)), .v (.bool x111), .b true, .b true, .b true, .v (.pointer (some ⟨x115p, x115o, some x115l⟩)), .b true, .v (.bool x116), .b true, .b true, .b true, .e, .b true, .b false, .b false, .b false, .v (.pointer (some ⟨x124p, x124o, some x124l⟩)), .b false, .v (.string x125), .b false, .e, .b false, .b false, .b false, .v (.pointer (some ⟨x129p, x129o, some x129l⟩)), .b false, .v (.string x130), .b false, .e, .b false, .e, .b true, .b false, .b true, .b true, .b true, .b true, .b true, .b true, .b true, .b true, .b true, .b true, .b true, .b true, .b true, .b true, .b true, .b true, .b true, .b true, .e] (ai (decide_eq_true h1) (ai h2 (ai h3 (ai h4 (ai h5 (ai h5 (ai h5 (ai h6 (ai h5 (ai h7 (ai h5 (ai h8 (ai h8 (ai h8 (ai (decide_eq_false h9) (ai (decide_eq_false h9) (ai (decide_eq_false h9) (ai h10 (ai (decide_eq_false h9) (ai h11 (ai (decide_eq_false h9) (ai (decide_eq_false h9) (ai (decide_eq_false h9) (ai (decide_eq_false h9) (ai h12 (ai (decide_eq_false h9) (ai h13 (ai (decide_eq_false h9) (ai (decide_eq_false h9) (ai h8 (ai (decide_eq_false h9) (ai h8 (ai (decide_eq_true h14) (ai (decide_eq_true h14) (ai (decide_eq_true h14) (ai (decide_eq_true h14) (ai (decide_eq_true h14) (ai (decide_eq_true h14) (ai (decide_eq_true h14) (ai (decide_eq_true h14) (ai (decide_eq_true h14) (ai (decide_eq_true h14) (ai (decide_eq_true h14) (ai (decide_eq_true h14) (ai (decide_eq_true h14) (ai h8 (ai (decide_eq_true h14) (ai h8 (ai (Eq.refl true) (ai h15 (Eq.refl (Sum.inl ([Value.pointer (some ⟨x1p, x1o, some x1l⟩), Value.pointer (some ⟨x3p, x3o, some x3l⟩), Value.slice x5a x5n x5c, Value.int .i64 x7, Value.slice x11a x11n x11c, Value.slice x13a x13n x13c, Value.slice x14a x14n x14c, Value.int .i64 x104, Value.int .i64 x103, Value.int .i64 (x104 + 1)], H) : LS ⊕ LO)))))))))))))))))))))))))))))))))))))))))))))))))))) (by kernel_rfl)
theorem f37_L1_2 {x1p x1o x1l x3p x3o x3l : Nat} {x5a : Option Addr} {x5n x5c : Nat} {x7 : Int} {x11a : Option Addr} {x11n x11c : Nat} {x13a : Option Addr} {x13n x13c : Nat} {x14a : Option Addr} {x14n x14c : Nat} {x15 x103 x104 : Int} {H0 : AHeap} {prot : Nat} {H : AHeap} {x108a : Option Addr} {x108n x108c x110p x110o x110l : Nat} {x111 : Bool} {x115p x115o x115l : Nat} {x116 : Bool} {x124p x124o x124l : Nat} {x125 : ByteArray} {x129p x129o x129l : Nat} {x130 : ByteArray} {x137p x137o x137l : Nat} {x138 : ByteArray} {x142p x142o x142l : Nat} {x143 : ByteArray} {x149p x149o x149l : Nat} {x150 : ByteArray} {x153p x153o x153l : Nat} {x154 : ByteArray} (h1 : x104 < x103) (h2 : getCells H x1p x1l (x1o + 2) 1 = some [Value.slice x108a x108n x108c]) (h3 : aindexAddr cfg.P 23 (Value.slice x108a x108n x108c) (Value.int .i64 x104) = some (Value.pointer (some ⟨x110p, x110o, some x110l⟩))) (h4 : getCells H x110p x110l x110o 1 = some [Value.bool x111]) (h5 : x111 = true) (h6 : aindexAddr cfg.P 23 (Value.slice x14a x14n x14c) (Value.int .i64 x104) = some (Value.pointer (some ⟨x115p, x115o, some x115l⟩))) (h7 : getCells H x115p x115l x115o 1 = some [Value.bool x116]) (h8 : x116 = true) (h9 : ¬(x15 < 0)) (h10 : aindexAddr cfg.P 43 (Value.slice x13a x13n x13c) (Value.int .i64 x104) = some (Value.pointer (some ⟨x124p, x124o, some x124l⟩))) (h11 : getCells H x124p x124l x124o 1 = some [Value.string x125]) (h12 : aindexAddr cfg.P 43 (Value.slice x13a x13n x13c) (Value.int .i64 x15) = some (Value.pointer (some ⟨x129p, x129o, some x129l⟩))) (h13 : getCells H x129p x129l x129o 1 = some [Value.string x130]) (h14 : ¬((↑x125.size : Int) < (↑x130.size : Int))) (h15 : aindexAddr cfg.P 43 (Value.slice x13a x13n x13c) (Value.int .i64 x104) = some (Value.pointer (some ⟨x137p, x137o, some x137l⟩))) (h16 : getCells H x137p x137l x137o 1 = some [Value.string x138]) (h17 : aindexAddr cfg.P 43 (Value.slice x13a x13n x13c) (Value.int .i64 x15) = some (Value.pointer (some ⟨x142p, x142o, some x142l⟩))) (h18 : getCells H x142p x142l x142o 1 = some [Value.string x143]) (h19 : ((↑x138.size : Int) == (↑x143.size : Int)) = true) (h20 : aindexAddr cfg.P 43 (Value.slice x13a x13n x13c) (Value.int .i64 x104) = some (Value.pointer (some ⟨x149p, x149o, some x149l⟩))) (h21 : getCells H x149p x149l x149o 1 = some [Value.string x150]) (h22 : aindexAddr cfg.P 43 (Value.slice x13a x13n x13c) (Value.int .i64 x15) = some (Value.pointer (some ⟨x153p, x153o, some x153l⟩))) (h23 : getCells H x153p x153l x153o 1 = some [Value.string x154]) (h24 : Op.bytesLess x150.toList x154.toList = true) (h25 : Fit .i64 (x104 + 1)) : lpOf cfg a37 1 prot H0 ([.pointer (some ⟨x1p, x1o, some x1l⟩), .pointer (some ⟨x3p, x3o, some x3l⟩), .slice x5a x5n x5c, .int .i64 x7, .slice x11a x11n x11c, .slice x13a x13n x13c, .slice x14a x14n x14c, .int .i64 x15, .int .i64 x103, .int .i64 x104], H) = some (Sum.inl ([Value.pointer (some ⟨x1p, x1o, some x1l⟩), Value.pointer (some ⟨x3p, x3o, some x3l⟩), Value.slice x5a x5n x5c, Value.int .i64 x7, Value.slice x11a x11n x11c, Value.slice x13a x13n x13c, Value.slice x14a x14n x14c, Value.int .i64 x104, Value.int .i64 x103, Value.int .i64 (x104 + 1)], H)) :=
  lp_of2 [.e, .b true, .v (.slice x108a x108n x108c), .v (.pointer (some ⟨x110p, x110o, some x110l⟩)), .v (.bool x111), .b true, .b true, .b true, .v (.pointer (some ⟨x115p, x115o, some x115l⟩)), .b true, .v (.bool x116), .b true, .b true, .b true, .e, .b true, .b false, .b false, .b false, .v (.pointer (some ⟨x124p, x124o, some x124l⟩)), .b false, .v (.string x125), .b false, .e, .b false, .b false, .b false, .v (.pointer (some ⟨x129p, x129o, some x129l⟩)), .b false, .v (.string x130), .b false, .e, .b false, .e, .b true, .b false, .b true, .b false, .b false, .b false, .v (.pointer (some ⟨x137p, x137o, some x137l⟩)), .b false, .v (.string x138), .b false, .e, .b false, .b false, .b false, .v (.pointer (some ⟨x142p, x142o, some x142l⟩)), .b false, .v (.string x143), .b false, .e, .b false, .e, .b false, .b true, .b true, .b true, .v (.pointer (some ⟨x149p, x149o, some x149l⟩)), .b true, .v (.string x150), .b true, .b true, .b true, .v (.pointer (some ⟨x153p, x153o, some x153l⟩)), .b true, .v (.string x154), .b true, .e, .b false, .b true, .b true, .b false, .b true, .b true, .e] (ai (decide_eq_true h1) (ai h2 (ai h3 (ai h4 (ai h5 (ai h5 (ai h5 (ai h6 (ai h5 (ai h7 (ai h5 (ai h8 (ai h8 (ai h8 (ai (decide_eq_false h9) (ai (decide_eq_false h9) (ai (decide_eq_false h9) (ai h10 (ai (decide_eq_false h9) (ai h11 (ai (decide_eq_false h9) (ai (decide_eq_false h9) (ai (decide_eq_false h9) (ai (decide_eq_false h9) (ai h12 (ai (decide_eq_false h9) (ai h13 (ai (decide_eq_false h9) (ai (decide_eq_false h9) (ai h8 (ai (decide_eq_false h9) (ai h8 (ai (decide_eq_false h14) (ai (decide_eq_false h14) (ai (decide_eq_false h14) (ai h15 (ai (decide_eq_false h14) (ai h16 (ai (decide_eq_false h14) (ai (decide_eq_false h14) (ai (decide_eq_false h14) (ai (decide_eq_false h14) (ai h17 (ai (decide_eq_false h14) (ai h18 (ai (decide_eq_false h14) (ai (decide_eq_false h14) (ai (decide_eq_false h14) (ai h19 (ai h19 (ai h19 (ai h20 (ai h19 (ai h21 (ai h19 (ai h19 (ai h19 (ai h22 (ai h19 (ai h23 (ai h19 (ai (decide_eq_false h14) (ai h19 (ai h8 (ai (decide_eq_false h14) (ai h8 (ai h24 (ai h25 (Eq.refl (Sum.inl ([Value.pointer (some ⟨x1p, x1o, some x1l⟩), Value.pointer (some ⟨x3p, x3o, some x3l⟩), Value.slice x5a x5n x5c, Value.int .i64 x7, Value.slice x11a x11n x11c, Value.slice x13a x13n x13c, Value.slice x14a x14n x14c, Value.int .i64 x104, Value.int .i64 x103, Value.int .i64 (x104 + 1)], H) : LS ⊕ LO)))))))))))))))))))))))))))))))))))))))))))))))))))))))))))))))))))))) (by kernel_rfl)
theorem f37_L1_3 {x1p x1o x1l x3p x3o x3l : Nat} {x5a : Option Addr} {x5n x5c : Nat} {x7 : Int} {x11a : Option Addr} {x11n x11c : Nat} {x13a : Option Addr} {x13n x13c : Nat} {x14a : Option Addr} {x14n x14c : Nat} {x15 x103 x104 : Int} {H0 : AHeap} {prot : Nat} {H : AHeap} {x108a : Option Addr} {x108n x108c x110p x110o x110l : Nat} {x111 : Bool} {x115p x115o x115l : Nat} {x116 : Bool} {x124p x124o x124l : Nat} {x125 : ByteArray} {x129p x129o x129l : Nat} {x130 : ByteArray} {x137p x137o x137l : Nat} {x138 : ByteArray} {x142p x142o x142l : Nat} {x143 : ByteArray} {x149p x149o x149l : Nat} {x150 : ByteArray} {x153p x153o x153l : Nat} {x154 : ByteArray} (h1 : x104 < x103) (h2 : getCells H x1p x1l (x1o + 2) 1 = some [Value.slice x108a x108n x108c]) (h3 : aindexAddr cfg.P 23 (Value.slice x108a x108n x108c) (Value.int .i64 x104) = some (Value.pointer (some ⟨x110p, x110o, some x110l⟩))) (h4 : getCells H x110p x110l x110o 1 = some [Value.bool x111]) (h5 : x111 = true) (h6 : aindexAddr cfg.P 23 (Value.slice x14a x14n x14c) (Value.int .i64 x104) = some (Value.pointer (some ⟨x115p, x115o, some x115l⟩))) (h7 : getCells H x115p x115l x115o 1 = some [Value.bool x116]) (h8 : x116 = true) (h9 : ¬(x15 < 0)) (h10 : aindexAddr cfg.P 43 (Value.slice x13a x13n x13c) (Value.int .i64 x104) = some (Value.pointer (some ⟨x124p, x124o, some x124l⟩))) (h11 : getCells H x124p x124l x124o 1 = some [Value.string x125]) (h12 : aindexAddr cfg.P 43 (Value.slice x13a x13n x13c) (Value.int .i64 x15) = some (Value.pointer (some ⟨x129p, x129o, some x129l⟩))) (h13 : getCells H x129p x129l x129o 1 = some [Value.string x130]) (h14 : ¬((↑x125.size : Int) < (↑x130.size : Int))) (h15 : aindexAddr cfg.P 43 (Value.slice x13a x13n x13c) (Value.int .i64 x104) = some (Value.pointer (some ⟨x137p, x137o, some x137l⟩))) (h16 : getCells H x137p x137l x137o 1 = some [Value.string x138]) (h17 : aindexAddr cfg.P 43 (Value.slice x13a x13n x13c) (Value.int .i64 x15) = some (Value.pointer (some ⟨x142p, x142o, some x142l⟩))) (h18 : getCells H x142p x142l x142o 1 = some [Value.string x143]) (h19 : ((↑x138.size : Int) == (↑x143.size : Int)) = true) (h20 : aindexAddr cfg.P 43 (Value.slice x13a x13n x13c) (Value.int .i64 x104) = some (Value.pointer (some ⟨x149p, x149o, some x149l⟩))) (h21 : getCells H x149p x149l x149o 1 = some [Value.string x150]) (h22 : aindexAddr cfg.P 43 (Value.slice x13a x13n x13c) (Value.int .i64 x15) = some (Value.pointer (some ⟨x153p, x153o, some x153l⟩))) (h23 : getCells H x153p x153l x153o 1 = some [Value.string x154]) (h24 : Op.bytesLess x150.toList x154.toList = false) (h25 : Fit .i64 (x104 + 1)) : lpOf cfg a37 1 prot H0 ([.pointer (some ⟨x1p, x1o, some x1l⟩), .pointer (some ⟨x3p, x3o, some x3l⟩), .slice x5a x5n x5c, .int .i64 x7, .slice x11a x11n x11c, .slice x13a x13n x13c, .slice x14a x14n x14c, .int .i64 x15, .int .i64 x103, .int .i64 x104], H) = some (Sum.inl ([Value.pointer (some ⟨x1p, x1o, some x1l⟩), Value.pointer (some ⟨x3p, x3o, some x3l⟩), Value.slice x5a x5n x5c, Value.int .i64 x7, Value.slice x11a x11n x11c, Value.slice x13a x13n x13c, Value.slice x14a x14n x14c, Value.int .i64 x15, Value.int .i64 x103, Value.int .i64 (x104 + 1)], H)) :=
  lp_of2 [.e, .b true, .v (.slice x108a x108n x108c), .v (.pointer (some ⟨x110p, x110o, some x110l⟩)), .v (.bool x111), .b true, .b true, .b true, .v (.pointer (some ⟨x115p, x115o, some x115l⟩)), .b true, .v (.bool x116), .b true, .b true, .b true, .e, .b true, .b false, .b false, .b false, .v (.pointer (some ⟨x124p, x124o, some x124l⟩)), .b false, .v (.string x125), .b false, .e, .b false, .b false, .b false, .v (.pointer (some ⟨x129p, x129o, some x129l⟩)), .b false, .v (.string x130), .b false, .e, .b false, .e, .b true, .b false, .b true, .b false, .b false, .b false, .v (.pointer (some ⟨x137p, x137o, some x137l⟩)), .b false, .v (.string x138), .b false, .e, .b false, .b false, .b false, .v (.pointer (some ⟨x142p, x142o, some x142l⟩)), .b false, .v (.string x143), .b false, .e, .b false, .e, .b false, .b true, .b true, .b true, .v (.pointer (some ⟨x149p, x149o, some x149l⟩)), .b true, .v (.string x150), .b true, .b true, .b true, .v (.pointer (some ⟨x153p, x153o, some x153l⟩)), .b true, .v (.string x154), .b true, .e, .b false, .b true, .b true, .b false, .b true, .b false, .e] (ai (decide_eq_true h1) (ai h2 (ai h3 (ai h4 (ai h5 (ai h5 (ai h5 (ai h6 (ai h5 (ai h7 (ai h5 (ai h8 (ai h8 (ai h8 (ai (decide_eq_false h9) (ai (decide_eq_false h9) (ai (decide_eq_false h9) (ai h10 (ai (decide_eq_false h9) (ai h11 (ai (decide_eq_false h9) (ai (decide_eq_false h9) (ai (decide_eq_false h9) (ai (decide_eq_false h9) (ai h12 (ai (decide_eq_false h9) (ai h13 (ai (decide_eq_false h9) (ai (decide_eq_false h9) (ai h8 (ai (decide_eq_false h9) (ai h8 (ai (decide_eq_false h14) (ai (decide_eq_false h14) (ai (decide_eq_false h14) (ai h15 (ai (decide_eq_false h14) (ai h16 (ai (decide_eq_false h14) (ai (decide_eq_false h14) (ai (decide_eq_false h14) (ai (decide_eq_false h14) (ai h17 (ai (decide_eq_false h14) (ai h18 (ai (decide_eq_false h14) (ai (decide_eq_false h14) (ai (decide_eq_false h14) (ai h19 (ai h19 (ai h19 (ai h20 (ai h19 (ai h21 (ai h19 (ai h19 (ai h19 (ai h22 (ai h19 (ai h23 (ai h19 (ai (decide_eq_false h14) (ai h19 (ai h8 (ai (decide_eq_false h14) (ai h8 (ai h24 (ai h25 (Eq.refl (Sum.inl ([Value.pointer (some ⟨x1p, x1o, some x1l⟩), Value.pointer (some ⟨x3p, x3o, some x3l⟩), Value.slice x5a x5n x5c, Value.int .i64 x7, Value.slice x11a x11n x11c, Value.slice x13a x13n x13c, Value.slice x14a x14n x14c, Value.int .i64 x15, Value.int .i64 x103, Value.int .i64 (x104 + 1)], H) : LS ⊕ LO)))))))))))))))))))))))))))))))))))))))))))))))))))))))))))))))))))))) (by kernel_rfl)
theorem f37_L1_4 {x1p x1o x1l x3p x3o x3l : Nat} {x5a : Option Addr} {x5n x5c : Nat} {x7 : Int} {x11a : Option Addr} {x11n x11c : Nat} {x13a : Option Addr} {x13n x13c : Nat} {x14a : Option Addr} {x14n x14c : Nat} {x15 x103 x104 : Int} {H0 : AHeap} {prot : Nat} {H : AHeap} {x108a : Option Addr} {x108n x108c x110p x110o x110l : Nat} {x111 : Bool} {x115p x115o x115l : Nat} {x116 : Bool} {x124p x124o x124l : Nat} {x125 : ByteArray} {x129p x129o x129l : Nat} {x130 : ByteArray} {x137p x137o x137l : Nat} {x138 : ByteArray} {x142p x142o x142l : Nat} {x143 : ByteArray} (h1 : x104 < x103) (h2 : getCells H x1p x1l (x1o + 2) 1 = some [Value.slice x108a x108n x108c]) (h3 : aindexAddr cfg.P 23 (Value.slice x108a x108n x108c) (Value.int .i64 x104) = some (Value.pointer (some ⟨x110p, x110o, some x110l⟩))) (h4 : getCells H x110p x110l x110o 1 = some [Value.bool x111]) (h5 : x111 = true) (h6 : aindexAddr cfg.P 23 (Value.slice x14a x14n x14c) (Value.int .i64 x104) = some (Value.pointer (some ⟨x115p, x115o, some x115l⟩))) (h7 : getCells H x115p x115l x115o 1 = some [Value.bool x116]) (h8 : x116 = true) (h9 : ¬(x15 < 0)) (h10 : aindexAddr cfg.P 43 (Value.slice x13a x13n x13c) (Value.int .i64 x104) = some (Value.pointer (some ⟨x124p, x124o, some x124l⟩))) (h11 : getCells H x124p x124l x124o 1 = some [Value.string x125]) (h12 : aindexAddr cfg.P 43 (Value.slice x13a x13n x13c) (Value.int .i64 x15) = some (Value.pointer (some ⟨x129p, x129o, some x129l⟩))) (h13 : getCells H x129p x129l x129o 1 = some [Value.string x130]) (h14 : ¬((↑x125.size : Int) < (↑x130.size : Int))) (h15 : aindexAddr cfg.P 43 (Value.slice x13a x13n x13c) (Value.int .i64 x104) = some (Value.pointer (some ⟨x137p, x137o, some x137l⟩))) (h16 : getCells H x137p x137l x137o 1 = some [Value.string x138]) (h17 : aindexAddr cfg.P 43 (Value.slice x13a x13n x13c) (Value.int .i64 x15) = some (Value.pointer (some ⟨x142p, x142o, some x142l⟩))) (h18 : getCells H x142p x142l x142o 1 = some [Value.string x143]) (h19 : ((↑x138.size : Int) == (↑x143.size : Int)) = false) (h20 : Fit .i64 (x104 + 1)) : lpOf cfg a37 1 prot H0 ([.pointer (some ⟨x1p, x1o, some x1l⟩), .pointer (some ⟨x3p, x3o, some x3l⟩), .slice x5a x5n x5c, .int .i64 x7, .slice x11a x11n x11c, .slice x13a x13n x13c, .slice x14a x14n x14c, .int .i64 x15, .int .i64 x103, .int .i64 x104], H) = some (Sum.inl ([Value.pointer (some ⟨x1p, x1o, some x1l⟩), Value.pointer (some ⟨x3p, x3o, some x3l⟩), Value.slice x5a x5n x5c, Value.int .i64 x7, Value.slice x11a x11n x11c, Value.slice x13a x13n x13c, Value.slice x14a x14n x14c, Value.int .i64 x15, Value.int .i64 x103, Value.int .i64 (x104 + 1)], H)) :=
  lp_of2 [.e, .b true, .v (.slice x108a x108n x108c), .v (.pointer (some ⟨x110p, x110o, some x110l⟩)), .v (.bool x111), .b true, .b true, .b true, .v (.pointer (some ⟨x115p, x115o, some x115l⟩)), .b true, .v (.bool x116), .b true, .b true, .b true, .e, .b true, .b false, .b false, .b false, .v (.pointer (some ⟨x124p, x124o, some x124l⟩)), .b false, .v (.string x125), .b false, .e, .b false, .b false, .b false, .v (.pointer (some ⟨x129p, x129o, some x129l⟩)), .b false, .v (.string x130), .b false, .e, .b false, .e, .b true, .b false, .b true, .b false, .b false, .b false, .v (.pointer (some ⟨x137p, x137o, some x137l⟩)), .b false, .v (.string x138), .b false, .e, .b false, .b false, .b false, .v (.pointer (some ⟨x142p, x142o, some x142l⟩)), .b false, .v (.string x143), .b false, .e, .b false, .e, .b false, .b false, .b false, .b false, .b false, .b false, .b false, .b false, .b false, .b false, .b false, .b false, .b true, .b false, .b true, .b false, .e] (ai (decide_eq_true h1) (ai h2 (ai h3 (ai h4 (ai h5 (ai h5 (ai h5 (ai h6 (ai h5 (ai h7 (ai h5 (ai h8 (ai h8 (ai h8 (ai (decide_eq_false h9) (ai (decide_eq_false h9) (ai (decide_eq_false h9) (ai h10 (ai (decide_eq_false h9) (ai h11 (ai (decide_eq_false h9) (ai (decide_eq_false h9) (ai (decide_eq_false h9) (ai (decide_eq_false h9) (ai h12 (ai (decide_eq_false h9) (ai h13 (ai (decide_eq_false h9) (ai (decide_eq_false h9) (ai h8 (ai (decide_eq_false h9) (ai h8 (ai (decide_eq_false h14) (ai (decide_eq_false h14) (ai (decide_eq_false h14) (ai h15 (ai (decide_eq_false h14) (ai h16 (ai (decide_eq_false h14) (ai (decide_eq_false h14) (ai (decide_eq_false h14) (ai (decide_eq_false h14) (ai h17 (ai (decide_eq_false h14) (ai h18 (ai (decide_eq_false h14) (ai (decide_eq_false h14) (ai (decide_eq_false h14) (ai h19 (ai h19 (ai h19 (ai h19 (ai h19 (ai h19 (ai h19 (ai h19 (ai h19 (ai (decide_eq_false h14) (ai h19 (ai h8 (ai (decide_eq_false h14) (ai h8 (ai (Eq.refl false) (ai h20 (Eq.refl (Sum.inl ([Value.pointer (some ⟨x1p, x1o, some x1l⟩), Value.pointer (some ⟨x3p, x3o, some x3l⟩), Value.slice x5a x5n x5c, Value.int .i64 x7, Value.slice x11a x11n x11c, Value.slice x13a x13n x13c, Value.slice x14a x14n x14c, Value.int .i64 x15, Value.int .i64 x103, Value.int .i64 (x104 + 1)], H) : LS ⊕ LO)))))))))))))))))))))))))))))))))))))))))))))))))))))))))))))))))) (by kernel_rfl)
theorem f37_L1_5 {x1p x1o x1l x3p x3o x3l : Nat} {x5a : Option Addr} {x5n x5c : Nat} {x7 : Int} {x11a : Option Addr} {x11n x11c : Nat} {x13a : Option Addr} {x13n x13c : Nat} {x14a : Option Addr} {x14n x14c : Nat} {x15 x103 x104 : Int} {H0 : AHeap} {prot : Nat} {H : AHeap} {x108a : Option Addr} {x108n x108c x110p x110o x110l : Nat} {x111 : Bool} {x115p x115o x115l : Nat} {x116 : Bool} (h1 : x104 < x103) (h2 : getCells H x1p x1l (x1o + 2) 1 = some [Value.slice x108a x108n x108c]) (h3 : aindexAddr cfg.P 23 (Value.slice x108a x108n x108c) (Value.int .i64 x104) = some (Value.pointer (some ⟨x110p, x110o, some x110l⟩))) (h4 : getCells H x110p x110l x110o 1 = some [Value.bool x111]) (h5 : x111 = true) (h6 : aindexAddr cfg.P 23 (Value.slice x14a x14n x14c) (Value.int .i64 x104) = some (Value.pointer (some ⟨x115p, x115o, some x115l⟩))) (h7 : getCells H x115p x115l x115o 1 = some [Value.bool x116]) (h8 : x116 = false) (h9 : Fit .i64 (x104 + 1)) : lpOf cfg a37 1 prot H0 ([.pointer (some ⟨x1p, x1o, some x1l⟩), .pointer (some ⟨x3p, x3o, some x3l⟩), .slice x5a x5n x5c, .int .i64 x7, .slice x11a x11n x11c, .slice x13a x13n x13c, .slice x14a x14n x14c, .int .i64 x15, .int .i64 x103, .int .i64 x104], H) = some (Sum.inl ([Value.pointer (some ⟨x1p, x1o, some x1l⟩), Value.pointer (some ⟨x3p, x3o, some x3l⟩), Value.slice x5a x5n x5c, Value.int .i64 x7, Value.slice x11a x11n x11c, Value.slice x13a x13n x13c, Value.slice x14a x14n x14c, Value.int .i64 x15, Value.int .i64 x103, Value.int .i64 (x104 + 1)], H)) :=
  lp_of2 [.e, .b true, .v (.slice x108a x108n x108c), .v (.pointer (some ⟨x110p, x110o, some x110l⟩)), .v (.bool x111), .b true, .b true, .b true, .v (.pointer (some ⟨x115p, x115o, some x115l⟩)), .b true, .v (.bool x116), .b true, .b false, .b false, .b false, .b false, .b false, .b false, .b false, .b false, .e] (ai (decide_eq_true h1) (ai h2 (ai h3 (ai h4 (ai h5 (ai h5 (ai h5 (ai h6 (ai h5 (ai h7 (ai h5 (ai h8 (ai h8 (ai h8 (ai h8 (ai h8 (ai h8 (ai h8 (ai (Eq.refl false) (ai h9 (Eq.refl (Sum.inl ([Value.pointer (some ⟨x1p, x1o, some x1l⟩), Value.pointer (some ⟨x3p, x3o, some x3l⟩), Value.slice x5a x5n x5c, Value.int .i64 x7, Value.slice x11a x11n x11c, Value.slice x13a x13n x13c, Value.slice x14a x14n x14c, Value.int .i64 x15, Value.int .i64 x103, Value.int .i64 (x104 + 1)], H) : LS ⊕ LO)))))))))))))))))))))) (by kernel_rfl)
theorem f37_L1_6 {x1p x1o x1l x3p x3o x3l : Nat} {x5a : Option Addr} {x5n x5c : Nat} {x7 : Int} {x11a : Option Addr} {x11n x11c : Nat} {x13a : Option Addr} {x13n x13c : Nat} {x14a : Option Addr} {x14n x14c : Nat} {x15 x103 x104 : Int} {H0 : AHeap} {prot : Nat} {H : AHeap} {x108a : Option Addr} {x108n x108c x110p x110o x110l : Nat} {x111 : Bool} (h1 : x104 < x103) (h2 : getCells H x1p x1l (x1o + 2) 1 = some [Value.slice x108a x108n x108c]) (h3 : aindexAddr cfg.P 23 (Value.slice x108a x108n x108c) (Value.int .i64 x104) = some (Value.pointer (some ⟨x110p, x110o, some x110l⟩))) (h4 : getCells H x110p x110l x110o 1 = some [Value.bool x111]) (h5 : x111 = false) (h6 : Fit .i64 (x104 + 1)) : lpOf cfg a37 1 prot H0 ([.pointer (some ⟨x1p, x1o, some x1l⟩), .pointer (some ⟨x3p, x3o, some x3l⟩), .slice x5a x5n x5c, .int .i64 x7, .slice x11a x11n x11c, .slice x13a x13n x13c, .slice x14a x14n x14c, .int .i64 x15, .int .i64 x103, .int .i64 x104], H) = some (Sum.inl ([Value.pointer (some ⟨x1p, x1o, some x1l⟩), Value.pointer (some ⟨x3p, x3o, some x3l⟩), Value.slice x5a x5n x5c, Value.int .i64 x7, Value.slice x11a x11n x11c, Value.slice x13a x13n x13c, Value.slice x14a x14n x14c, Value.int .i64 x15, Value.int .i64 x103, Value.int .i64 (x104 + 1)], H)) :=
  lp_of2 [.e, .b true, .v (.slice x108a x108n x108c), .v (.pointer (some ⟨x110p, x110o, some x110l⟩)), .v (.bool x111), .b false, .b false, .b false, .b false, .b false, .b false, .b false, .b false, .b false, .b false, .b false, .b false, .b false, .e] (ai (decide_eq_true h1) (ai h2 (ai h3 (ai h4 (ai h5 (ai h5 (ai h5 (ai h5 (ai h5 (ai (Eq.refl false) (ai (Eq.refl false) (ai (Eq.refl false) (ai (Eq.refl false) (ai (Eq.refl false) (ai (Eq.refl false) (ai (Eq.refl false) (ai (Eq.refl false) (ai h6 (Eq.refl (Sum.inl ([Value.pointer (some ⟨x1p, x1o, some x1l⟩), Value.pointer (some ⟨x3p, x3o, some x3l⟩), Value.slice x5a x5n x5c, Value.int .i64 x7, Value.slice x11a x11n x11c, Value.slice x13a x13n x13c, Value.slice x14a x14n x14c, Value.int .i64 x15, Value.int .i64 x103, Value.int .i64 (x104 + 1)], H) : LS ⊕ LO)))))))))))))))))))) (by kernel_rfl)
theorem f37_L1_7 {x1p x1o x1l x3p x3o x3l : Nat} {x5a : Option Addr} {x5n x5c : Nat} {x7 : Int} {x11a : Option Addr} {x11n x11c : Nat} {x13a : Option Addr} {x13n x13c : Nat} {x14a : Option Addr} {x14n x14c : Nat} {x15 x103 x104 : Int} {H0 : AHeap} {prot : Nat} {H : AHeap} (h1 : ¬(x104 < x103)) : lpOf cfg a37 1 prot H0 ([.pointer (some ⟨x1p, x1o, some x1l⟩), .pointer (some ⟨x3p, x3o, some x3l⟩), .slice x5a x5n x5c, .int .i64 x7, .slice x11a x11n x11c, .slice x13a x13n x13c, .slice x14a x14n x14c, .int .i64 x15, .int .i64 x103, .int .i64 x104], H) = some (Sum.inr (Ex.exit 2, [Value.pointer (some ⟨x3p, x3o, some x3l⟩), Value.slice x5a x5n x5c, Value.int .i64 x7, Value.slice x11a x11n x11c, Value.slice x13a x13n x13c, Value.int .i64 x15], H)) :=
  lp_of2 [.e, .b false] (ai (decide_eq_false h1) (Eq.refl (Sum.inr (Ex.exit 2, [Value.pointer (some ⟨x3p, x3o, some x3l⟩), Value.slice x5a x5n x5c, Value.int .i64 x7, Value.slice x11a x11n x11c, Value.slice x13a x13n x13c, Value.int .i64 x15], H) : LS ⊕ LO))) (by kernel_rfl)
end Go.Proofs.Ythjkodbinkiifaa.Am23
namespace Go.Proofs.Ythjkodbinkiifaa.Am23
open Go Go.Proofs.Ythjkodbinkiifaa.Am

/-- Shorter, or as long and ahead. -/
def slt (a b : ByteArray) : Bool := decide (a.size < b.size) || (decide (a.size = b.size) && Op.bytesLess a.toList b.toList)
def ahd (wd : Nat → ByteArray) (s : Nat) : Option Nat → Bool
  | none => true
  | some t => slt (wd s) (wd t)
def upd (ok : Nat → Bool) (wd : Nat → ByteArray) (s : Nat) (b : Option Nat) : Option Nat := if ok s && ahd wd s b then some s else b
/-- The state with the least word, of those that will do. -/
def pick (ok : Nat → Bool) (wd : Nat → ByteArray) : Nat → Nat → Option Nat → Option Nat
  | 0, _, b => b
  | d + 1, s, b => pick ok wd d (s + 1) (upd ok wd s b)
def bi : Option Nat → Int
  | none => -1
  | some s => s
theorem upd_ok {ok : Nat → Bool} {wd : Nat → ByteArray} {s : Nat} {b : Option Nat} (h : ok s = true) {v : Bool} (h2 : ahd wd s b = v) : upd ok wd s b = if v = true then some s else b := by
  unfold upd; rw [h, h2, Bool.true_and]
theorem upd_no {ok : Nat → Bool} {wd : Nat → ByteArray} {s : Nat} {b : Option Nat} (h : ok s = false) : upd ok wd s b = b := by
  unfold upd; rw [h, Bool.false_and]; rfl
theorem upd_some {ok : Nat → Bool} {wd : Nat → ByteArray} {s : Nat} {b : Option Nat} {t : Nat} (h : upd ok wd s b = some t) : (t = s ∧ ok s = true) ∨ b = some t := by
  unfold upd at h
  split at h
  · rename_i h2
    cases h
    exact .inl ⟨rfl, (Bool.and_eq_true _ _ ▸ h2).1⟩
  · exact .inr h
theorem pick_some {ok : Nat → Bool} {wd : Nat → ByteArray} : ∀ (d s : Nat) (b : Option Nat) {t : Nat}, pick ok wd d s b = some t → (s ≤ t ∧ t < s + d ∧ ok t = true) ∨ b = some t
  | 0, _, _, _, h => .inr h
  | d + 1, s, b, t, h => by
    rcases pick_some d (s + 1) _ h with ⟨h1, h2, h3⟩ | h1
    · exact .inl ⟨by omega, by omega, h3⟩
    · rcases upd_some h1 with ⟨rfl, h2⟩ | h2
      · exact .inl ⟨by omega, by omega, h2⟩
      · exact .inr h2
theorem pick_none {ok : Nat → Bool} {wd : Nat → ByteArray} : ∀ (d s : Nat) (b : Option Nat), pick ok wd d s b = none → b = none ∧ ∀ t, s ≤ t → t < s + d → ok t = false
  | 0, _, _, h => ⟨h, fun t h1 h2 => by omega⟩
  | d + 1, s, b, h => by
    obtain ⟨h1, h2⟩ := pick_none d (s + 1) _ h
    unfold upd at h1
    split at h1
    · cases h1
    · rename_i h3
      subst h1
      have h3 : ¬ (ok s && true) = true := h3
      rw [Bool.and_true] at h3
      refine ⟨rfl, fun t h4 h5 => ?_⟩
      by_cases he : t = s
      · subst he; simpa using h3
      · exact h2 t (by omega) (by omega)

def okB (k : Nat) (xs : List Int) (n : Nat) (U : List Bool) (s : Nat) : Bool := U.getD s false && (bfs k xs n s false).met.getD s false
def wd0 (k : Nat) (xs : List Int) (n a : Nat) (s : Nat) : ByteArray := lw ((bfs k xs n a true).ws.getD s [])
def okE (k : Nat) (xs : List Int) (bs : List Bool) (a : Nat) (s : Nat) : Bool := bs.getD s false && (bfs k xs bs.length a true).met.getD s false
noncomputable def bestV (k : Nat) (xs : List Int) (bs : List Bool) : Option Nat := pick (okB k xs bs.length (useL k xs bs)) (wd0 k xs bs.length 0) bs.length 0 none
def endV (k : Nat) (xs : List Int) (bs : List Bool) (a : Nat) : Option Nat := pick (okE k xs bs a) (wd0 k xs bs.length a) bs.length 0 none
/-- Is the language finite? Else the three words. -/
noncomputable def boundV (k : Nat) (xs : List Int) (bs : List Bool) : Bool × ByteArray × ByteArray × ByteArray :=
  match bestV k xs bs with
  | none => (true, ByteArray.empty, ByteArray.empty, ByteArray.empty)
  | some b => (false, wd0 k xs bs.length 0 b, lw ((bfs k xs bs.length b false).ws.getD b []), wd0 k xs bs.length b ((endV k xs bs b).getD 0))

theorem slt_lt {a b : ByteArray} (h : (a.size : Int) < (b.size : Int)) : slt a b = true := by
  unfold slt; rw [decide_eq_true (by omega)]; rfl
theorem slt_eq {a b : ByteArray} (h2 : ((a.size : Int) == (b.size : Int)) = true) : slt a b = Op.bytesLess a.toList b.toList := by
  unfold slt
  have : a.size = b.size := by have := of_decide_eq_true (p := (a.size : Int) = b.size) (by simpa using h2); omega
  rw [decide_eq_false (by omega), Bool.false_or, decide_eq_true this, Bool.true_and]
theorem slt_gt {a b : ByteArray} (h : ¬ (a.size : Int) < (b.size : Int)) (h2 : ((a.size : Int) == (b.size : Int)) = false) : slt a b = false := by
  unfold slt
  have : a.size ≠ b.size := fun e => by rw [e] at h2; simp at h2
  rw [decide_eq_false (by omega), Bool.false_or, decide_eq_false this, Bool.false_and]

theorem loop37a {k : Nat} {xs : List Int} {bs : List Bool} (hG : Good k xs bs) {H0 : AHeap} {prot : Nat} {vN vA x4 x5 x3 : Value} {o4 o5 : Nat} {U : List Bool} (hU : U.length = bs.length) : ∀ (d i : Nat) (b : Option Nat) (H : AHeap), i + d = bs.length → (∀ t, b = some t → t < bs.length) →
    H[H0.length]? = some (bx k vN vA) → IsA H xs bs vN vA → H0.length < H.length → (∃ p o l, x3 = .pointer (some ⟨p, o, some l⟩)) →
    Own H 4 1 x4 (some o4) bs.length (bll U) → Own H 9 1 x5 (some o5) bs.length (sl (bfs k xs bs.length 0 true).ws) →
    ∃ H', lpInf (lpOf cfg a37 0 prot H0) ([.pointer (some ⟨H0.length, 0, some 3⟩), x3, x4, x5, .int .i64 (bi b), .int .i64 bs.length, .int .i64 i], H) =
      some (.exit 0, [.pointer (some ⟨H0.length, 0, some 3⟩), x3, x5, .int .i64 (bi (pick (okB k xs bs.length U) (wd0 k xs bs.length 0) d i b))], H') ∧ Stay none H H'
  | 0, i, b, H, hi, hb, hbx, hA, hH, ⟨p, o, l, hx3⟩, w4, w5 => by
    obtain ⟨a4, c4, rfl⟩ := w4.len
    obtain ⟨a5, c5, rfl⟩ := w5.len
    subst hx3
    exact ⟨H, lp_last (f37_L0_7 (by omega)), Stay.refl _ _⟩
  | d + 1, i, b, H, hi, hb, hbx, hA, hH, ⟨p, o, l, hx3⟩, w4, w5 => by
    have hn5 := hG.n5
    have hin : i < bs.length := by omega
    have hok := bfs_ok hG (show 0 < bs.length by omega) true
    obtain ⟨_, e, m1, m2⟩ := own_at T23 w4 (bl_at (show i < U.length by omega))
    cases e
    have fi : Fit .i64 ((i : Int) + 1) := fit64 (by omega) (by omega)
    obtain ⟨_, _, _, gx⟩ := fld3 hbx
    by_cases hu : U.getD i false = true
    · obtain ⟨x, y, pp, q, c, dd, H2, r1, rfl, rfl, r2, r3, r4, r5⟩ := c65 hG hin false H0.length H hA
      have hok2 := bfs_ok hG hin false
      have v4 := w4.stay r4 (fun id _ h => by cases h)
      have v5 := w5.stay r4 (fun id _ h => by cases h)
      obtain ⟨_, e, p1, p2⟩ := own_at T23 r3 (bl_at (show i < (bfs k xs bs.length i false).met.length by rw [hok2.lm]; exact hin))
      cases e
      have step : ∀ b' : Option Nat, b' = upd (okB k xs bs.length U) (wd0 k xs bs.length 0) i b → (∃ z, lpOf cfg a37 0 prot H0 ([.pointer (some ⟨H0.length, 0, some 3⟩), x3, x4, x5, .int .i64 (bi b), .int .i64 bs.length, .int .i64 i], H) = some (.inl z) ∧ z = ([.pointer (some ⟨H0.length, 0, some 3⟩), x3, x4, x5, .int .i64 (bi b'), .int .i64 bs.length, .int .i64 ((i : Int) + 1)], H2)) →
          ∃ H', lpInf (lpOf cfg a37 0 prot H0) ([.pointer (some ⟨H0.length, 0, some 3⟩), x3, x4, x5, .int .i64 (bi b), .int .i64 bs.length, .int .i64 i], H) =
            some (.exit 0, [.pointer (some ⟨H0.length, 0, some 3⟩), x3, x5, .int .i64 (bi (pick (okB k xs bs.length U) (wd0 k xs bs.length 0) (d + 1) i b))], H') ∧ Stay none H H' := fun b' hb' hz => by
        obtain ⟨z, hz1, rfl⟩ := hz
        obtain ⟨H', u1, u2⟩ := loop37a hG (prot := prot) (x3 := x3) hU d (i + 1) b' H2 (by omega) (fun t ht => by rw [hb'] at ht; rcases upd_some ht with ⟨rfl, _⟩ | h2; exact hin; exact hb t h2) (by rw [r4.2 _ hH (by simp)]; exact hbx) (hA.stay r4) (by omega) ⟨p, o, l, hx3⟩ v4 v5
        exact ⟨H', lp_next hz1 (by rw [pick, ← hb']; exact u1), r4.trans u2⟩
      obtain ⟨aN, cN, rfl⟩ := hA.n.len
      obtain ⟨aA, cA, rfl⟩ := hA.a.len
      obtain ⟨a4, c4, rfl⟩ := w4.len
      obtain ⟨a5, c5, rfl⟩ := w5.len
      subst hx3
      rw [hu] at m2
      by_cases hm : (bfs k xs bs.length i false).met.getD i false = true
      · rw [hm] at p2
        have hokt : okB k xs bs.length U i = true := by unfold okB; rw [hu, hm]; rfl
        cases b with
        | none => exact step (some i) ((upd_ok (b := none) (wd := wd0 k xs bs.length 0) hokt (v := true) rfl).symm) ⟨_, f37_L0_0 (by omega) m1 m2 rfl gx r1 p1 p2 rfl (by decide) fi, rfl⟩
        | some t =>
          have ht := hb t rfl
          obtain ⟨_, e, q1, q2⟩ := own_at T43 v5 (sl_at (show i < (bfs k xs bs.length 0 true).ws.length by rw [hok.lw]; exact hin))
          cases e
          obtain ⟨_, e, y1, y2⟩ := own_at T43 v5 (sl_at (show t < (bfs k xs bs.length 0 true).ws.length by rw [hok.lw]; exact ht))
          cases e
          have hbt : ¬ (bi (some t) < 0) := by simp only [bi]; omega
          by_cases h1 : ((wd0 k xs bs.length 0 i).size : Int) < ((wd0 k xs bs.length 0 t).size : Int)
          · exact step (some i) ((upd_ok (b := some t) (wd := wd0 k xs bs.length 0) hokt (v := true) (slt_lt h1)).symm) ⟨_, f37_L0_1 (by omega) m1 m2 rfl gx r1 p1 p2 rfl hbt q1 q2 y1 y2 h1 fi, rfl⟩
          · cases h2 : (((wd0 k xs bs.length 0 i).size : Int) == ((wd0 k xs bs.length 0 t).size : Int)) with
            | true =>
              have hs := slt_eq h2
              cases h3 : Op.bytesLess (wd0 k xs bs.length 0 i).toList (wd0 k xs bs.length 0 t).toList with
              | true => exact step (some i) ((upd_ok (b := some t) (wd := wd0 k xs bs.length 0) hokt (v := true) (hs.trans h3)).symm) ⟨_, f37_L0_2 (by omega) m1 m2 rfl gx r1 p1 p2 rfl hbt q1 q2 y1 y2 h1 q1 q2 y1 y2 h2 q1 q2 y1 y2 h3 fi, rfl⟩
              | false => exact step (some t) ((upd_ok (b := some t) (wd := wd0 k xs bs.length 0) hokt (v := false) (hs.trans h3)).symm) ⟨_, f37_L0_3 (by omega) m1 m2 rfl gx r1 p1 p2 rfl hbt q1 q2 y1 y2 h1 q1 q2 y1 y2 h2 q1 q2 y1 y2 h3 fi, rfl⟩
            | false => exact step (some t) ((upd_ok (b := some t) (wd := wd0 k xs bs.length 0) hokt (v := false) (slt_gt h1 h2)).symm) ⟨_, f37_L0_4 (by omega) m1 m2 rfl gx r1 p1 p2 rfl hbt q1 q2 y1 y2 h1 q1 q2 y1 y2 h2 fi, rfl⟩
      · have hm : (bfs k xs bs.length i false).met.getD i false = false := by simpa using hm
        rw [hm] at p2
        exact step b (by unfold upd okB; rw [hm, Bool.and_false, Bool.false_and]; rfl) ⟨_, f37_L0_5 (by omega) m1 m2 rfl gx r1 p1 p2 rfl fi, rfl⟩
    · have hu : U.getD i false = false := by simpa using hu
      obtain ⟨H', u1, u2⟩ := loop37a hG (prot := prot) (x3 := x3) hU d (i + 1) b H (by omega) hb hbx hA hH ⟨p, o, l, hx3⟩ w4 w5
      obtain ⟨a4, c4, rfl⟩ := w4.len
      obtain ⟨a5, c5, rfl⟩ := w5.len
      subst hx3
      rw [hu] at m2
      refine ⟨H', lp_next (f37_L0_6 (by omega) m1 m2 rfl fi) ?_, u2⟩
      have : upd (okB k xs bs.length U) (wd0 k xs bs.length 0) i b = b := by unfold upd okB; rw [hu, Bool.false_and, Bool.false_and]; rfl
      rw [pick, this]
      exact u1

theorem loop37b {k a : Nat} {xs : List Int} {bs : List Bool} (hG : Good k xs bs) (ha : a < bs.length) {H0 H : AHeap} {prot : Nat} {vN vA x3 x5 x11 x13 x14 : Value} {x7 : Int} {o13 o14 : Nat} (hbx : H[H0.length]? = some (bx k vN vA)) (hA : IsA H xs bs vN vA)
    (h3 : ∃ p o l, x3 = .pointer (some ⟨p, o, some l⟩)) (h5 : ∃ p n c, x5 = .slice p n c) (h11 : ∃ p n c, x11 = .slice p n c)
    (w13 : Own H 9 1 x13 (some o13) bs.length (sl (bfs k xs bs.length a true).ws)) (w14 : Own H 4 1 x14 (some o14) bs.length (bll (bfs k xs bs.length a true).met)) : ∀ (d i : Nat) (b : Option Nat), i + d = bs.length → (∀ t, b = some t → t < bs.length) →
    lpInf (lpOf cfg a37 1 prot H0) ([.pointer (some ⟨H0.length, 0, some 3⟩), x3, x5, .int .i64 x7, x11, x13, x14, .int .i64 (bi b), .int .i64 bs.length, .int .i64 i], H) =
      some (.exit 2, [x3, x5, .int .i64 x7, x11, x13, .int .i64 (bi (pick (okE k xs bs a) (wd0 k xs bs.length a) d i b))], H)
  | 0, i, b, hi, hb => by
    obtain ⟨p, o, l, rfl⟩ := h3
    obtain ⟨_, _, _, rfl⟩ := h5
    obtain ⟨_, _, _, rfl⟩ := h11
    obtain ⟨_, _, rfl⟩ := w13.len
    obtain ⟨_, _, rfl⟩ := w14.len
    exact lp_last (f37_L1_7 (by omega))
  | d + 1, i, b, hi, hb => by
    have hn5 := hG.n5
    have hin : i < bs.length := by omega
    have hok := bfs_ok hG ha true
    have ih := fun b' hb' => loop37b hG ha (prot := prot) hbx hA h3 h5 h11 w13 w14 (x7 := x7) d (i + 1) b' (by omega) hb'
    obtain ⟨idA, LA, n1, n2⟩ := rd_at T23 hA.a (bl_at hin)
    have fi : Fit .i64 ((i : Int) + 1) := fit64 (by omega) (by omega)
    obtain ⟨_, e, p1, p2⟩ := own_at T23 w14 (bl_at (show i < (bfs k xs bs.length a true).met.length by rw [hok.lm]; exact hin))
    cases e
    have step : ∀ b' : Option Nat, b' = upd (okE k xs bs a) (wd0 k xs bs.length a) i b → lpOf cfg a37 1 prot H0 ([.pointer (some ⟨H0.length, 0, some 3⟩), x3, x5, .int .i64 x7, x11, x13, x14, .int .i64 (bi b), .int .i64 bs.length, .int .i64 i], H) = some (.inl ([.pointer (some ⟨H0.length, 0, some 3⟩), x3, x5, .int .i64 x7, x11, x13, x14, .int .i64 (bi b'), .int .i64 bs.length, .int .i64 ((i : Int) + 1)], H)) →
        lpInf (lpOf cfg a37 1 prot H0) ([.pointer (some ⟨H0.length, 0, some 3⟩), x3, x5, .int .i64 x7, x11, x13, x14, .int .i64 (bi b), .int .i64 bs.length, .int .i64 i], H) =
          some (.exit 2, [x3, x5, .int .i64 x7, x11, x13, .int .i64 (bi (pick (okE k xs bs a) (wd0 k xs bs.length a) (d + 1) i b))], H) := fun b' hb' hz => by
      have := ih b' (fun t ht => by rw [hb'] at ht; rcases upd_some ht with ⟨rfl, _⟩ | h2; exact hin; exact hb t h2)
      exact lp_next hz (by rw [pick, ← hb']; exact this)
    obtain ⟨p, o, l, rfl⟩ := h3
    obtain ⟨_, _, _, rfl⟩ := h5
    obtain ⟨_, _, _, rfl⟩ := h11
    have w13' := w13
    obtain ⟨_, _, rfl⟩ := w13.len
    obtain ⟨_, _, rfl⟩ := w14.len
    obtain ⟨aN, cN, rfl⟩ := hA.n.len
    obtain ⟨aA, cA, rfl⟩ := hA.a.len
    obtain ⟨_, _, g2, _⟩ := fld3 hbx
    by_cases hu : bs.getD i false = true
    · rw [hu] at n2
      by_cases hm : (bfs k xs bs.length a true).met.getD i false = true
      · rw [hm] at p2
        have hokt : okE k xs bs a i = true := by unfold okE; rw [hu, hm]; rfl
        cases b with
        | none => exact step (some i) ((upd_ok (b := none) (wd := wd0 k xs bs.length a) hokt (v := true) rfl).symm) (f37_L1_0 (by omega) g2 n1 n2 rfl p1 p2 rfl (by decide) fi)
        | some t =>
          have ht := hb t rfl
          obtain ⟨_, e, q1, q2⟩ := own_at T43 w13' (sl_at (show i < (bfs k xs bs.length a true).ws.length by rw [hok.lw]; exact hin))
          cases e
          obtain ⟨_, e, y1, y2⟩ := own_at T43 w13' (sl_at (show t < (bfs k xs bs.length a true).ws.length by rw [hok.lw]; exact ht))
          cases e
          have hbt : ¬ (bi (some t) < 0) := by simp only [bi]; omega
          by_cases h1 : ((wd0 k xs bs.length a i).size : Int) < ((wd0 k xs bs.length a t).size : Int)
          · exact step (some i) ((upd_ok (b := some t) (wd := wd0 k xs bs.length a) hokt (v := true) (slt_lt h1)).symm) (f37_L1_1 (by omega) g2 n1 n2 rfl p1 p2 rfl hbt q1 q2 y1 y2 h1 fi)
          · cases h2 : (((wd0 k xs bs.length a i).size : Int) == ((wd0 k xs bs.length a t).size : Int)) with
            | true =>
              have hs := slt_eq h2
              cases h3 : Op.bytesLess (wd0 k xs bs.length a i).toList (wd0 k xs bs.length a t).toList with
              | true => exact step (some i) ((upd_ok (b := some t) (wd := wd0 k xs bs.length a) hokt (v := true) (hs.trans h3)).symm) (f37_L1_2 (by omega) g2 n1 n2 rfl p1 p2 rfl hbt q1 q2 y1 y2 h1 q1 q2 y1 y2 h2 q1 q2 y1 y2 h3 fi)
              | false => exact step (some t) ((upd_ok (b := some t) (wd := wd0 k xs bs.length a) hokt (v := false) (hs.trans h3)).symm) (f37_L1_3 (by omega) g2 n1 n2 rfl p1 p2 rfl hbt q1 q2 y1 y2 h1 q1 q2 y1 y2 h2 q1 q2 y1 y2 h3 fi)
            | false => exact step (some t) ((upd_ok (b := some t) (wd := wd0 k xs bs.length a) hokt (v := false) (slt_gt h1 h2)).symm) (f37_L1_4 (by omega) g2 n1 n2 rfl p1 p2 rfl hbt q1 q2 y1 y2 h1 q1 q2 y1 y2 h2 fi)
      · have hm : (bfs k xs bs.length a true).met.getD i false = false := by simpa using hm
        rw [hm] at p2
        exact step b ((upd_no (by unfold okE; rw [hm, Bool.and_false])).symm) (f37_L1_5 (by omega) g2 n1 n2 rfl p1 p2 rfl fi)
    · have hu : bs.getD i false = false := by simpa using hu
      rw [hu] at n2
      exact step b ((upd_no (by unfold okE; rw [hu, Bool.false_and])).symm) (f37_L1_6 (by omega) g2 n1 n2 rfl fi)

/-- Where there is a best state there is an end. -/
theorem best_end {k : Nat} {xs : List Int} {bs : List Bool} (hG : Good k xs bs) {b : Nat} (h : bestV k xs bs = some b) : b < bs.length ∧ okB k xs bs.length (useL k xs bs) b = true ∧ ∃ e, endV k xs bs b = some e ∧ e < bs.length ∧ okE k xs bs b e = true := by
  rcases pick_some _ _ _ h with ⟨_, h2, h3⟩ | h1
  · have hb : b < bs.length := by omega
    refine ⟨hb, h3, ?_⟩
    have hu : (useL k xs bs).getD b false = true := by unfold okB at h3; exact (Bool.and_eq_true _ _ ▸ h3).1
    rw [useL_at hb] at hu
    have hh : (hopeL k xs bs).getD b false = true := (Bool.and_eq_true _ _ ▸ hu).2
    rw [List.getD_eq_getElem?_getD, List.getElem?_eq_getElem (by rw [hopeL_len]; exact hb), Option.getD_some, hopeL_get] at hh
    obtain ⟨w, hw, ha⟩ := @of_decide_eq_true _ (Classical.propDecidable _) hh
    cases he : endV k xs bs b with
    | some e =>
      rcases pick_some _ _ _ he with ⟨_, h5, h6⟩ | h5
      · exact ⟨e, rfl, by omega, h6⟩
      · cases h5
    | none =>
      obtain ⟨_, h5⟩ := pick_none _ _ _ he
      have hl := go_lt hG w b hw hb
      have := h5 _ (Nat.zero_le _) (by omega : go k xs b w < 0 + bs.length)
      unfold okE at this
      rw [ha, Bool.true_and, (bfs_met hG hb true _).2 ⟨w, hw, rfl, fun h => by cases h⟩] at this
      cases this
  · cases h1
end Go.Proofs.Ythjkodbinkiifaa.Am23
set_option linter.unusedVariables false
open Go Go.Proofs.Ythjkodbinkiifaa.Am
namespace Go.Proofs.Ythjkodbinkiifaa.Am23
end Go.Proofs.Ythjkodbinkiifaa.Am23
namespace Go.Proofs.Ythjkodbinkiifaa.Am23
open Go Go.Proofs.Ythjkodbinkiifaa.Am

theorem setAll3 {H : AHeap} {p prot : Nat} {a b c x y z : Value} {e : TypeId} (h : H[p]? = some (.cells [a, b, c] e 3 .var)) (hp : prot ≤ p) (hv : [x, y, z].all isCell = true) : setCells H prot p 3 0 [x, y, z] = some (H.set p (.cells [x, y, z] e 3 .var)) := by
  unfold setCells
  rw [h]
  simp only
  rw [if_pos ⟨rfl, hp, rfl, by simp, hv⟩]
  rfl

theorem gc_agg {H H' : AHeap} {cs : Array Value} (h : plain1 (.agg cs) = false) : gc H [.agg cs] H' = (.agg cs, H') := by
  unfold gc
  have : keepAll H.length H' [.agg cs] [] = none := by
    simp only [keepAll, keep1]
    rw [if_neg (by rw [h]; simp)]
    rfl
  rw [this]
  split <;> rfl

end Go.Proofs.Ythjkodbinkiifaa.Am23
set_option linter.unusedVariables false
open Go Go.Proofs.Ythjkodbinkiifaa.Am
namespace Go.Proofs.Ythjkodbinkiifaa.Am23
theorem f13_F_0 {x0a : Int} {x0ba : Option Addr} {x0bn x0bc : Nat} {x0ca : Option Addr} {x0cn x0cc : Nat} {H : AHeap} {prot : Nat} {x8a : Int} {x8ba : Option Addr} {x8bn x8bc : Nat} {x8ca : Option Addr} {x8cn x8cc : Nat} {x9 : Int} {H1 : AHeap} {wa wb wc : ByteArray} (h1 : [Value.int .i64 x0a, Value.slice x0ba x0bn x0bc, Value.slice x0ca x0cn x0cc].all isCell = true) (h2 : getCells (H ++ [vo [Value.int .i64 x0a, Value.slice x0ba x0bn x0bc, Value.slice x0ca x0cn x0cc] 25] ++ [vo [Value.string { data := { toList := [] } }, Value.string { data := { toList := [] } }, Value.string { data := { toList := [] } }] 29]) (List.length H) [Value.int .i64 x0a, Value.slice x0ba x0bn x0bc, Value.slice x0ca x0cn x0cc].length 0 3 = some [Value.int .i64 x8a, Value.slice x8ba x8bn x8bc, Value.slice x8ca x8cn x8cc]) (h3 : callInf cfg 36 [Value.agg { toList := [Value.int .i64 x8a, Value.slice x8ba x8bn x8bc, Value.slice x8ca x8cn x8cc] }] (List.length H) (H ++ [vo [Value.int .i64 x0a, Value.slice x0ba x0bn x0bc, Value.slice x0ca x0cn x0cc] 25] ++ [vo [Value.string { data := { toList := [] } }, Value.string { data := { toList := [] } }, Value.string { data := { toList := [] } }] 29]) = some (Value.int .i64 x9, H ++ [vo [Value.int .i64 x0a, Value.slice x0ba x0bn x0bc, Value.slice x0ca x0cn x0cc] 25] ++ [vo [Value.string { data := { toList := [] } }, Value.string { data := { toList := [] } }, Value.string { data := { toList := [] } }] 29])) (h4 : (x9 != 0) = true) (h5 : [Value.string { data := { toList := [] } }, Value.string { data := { toList := [] } }, Value.string { data := { toList := [] } }].length = 3) (h6 : setCells (H ++ [vo [Value.int .i64 x0a, Value.slice x0ba x0bn x0bc, Value.slice x0ca x0cn x0cc] 25] ++ [vo [Value.string { data := { toList := [] } }, Value.string { data := { toList := [] } }, Value.string { data := { toList := [] } }] 29]) (List.length H) (List.length (H ++ [vo [Value.int .i64 x0a, Value.slice x0ba x0bn x0bc, Value.slice x0ca x0cn x0cc] 25])) [Value.string { data := { toList := [] } }, Value.string { data := { toList := [] } }, Value.string { data := { toList := [] } }].length 0 [Value.string { data := { toList := [] } }, Value.string { data := { toList := [] } }, Value.string { data := { toList := [] } }] = some H1) (h7 : getCells H1 (List.length (H ++ [vo [Value.int .i64 x0a, Value.slice x0ba x0bn x0bc, Value.slice x0ca x0cn x0cc] 25])) [Value.string { data := { toList := [] } }, Value.string { data := { toList := [] } }, Value.string { data := { toList := [] } }].length 0 3 = some [Value.string wa, Value.string wb, Value.string wc]) : callInf cfg 13 [.agg #[.int .i64 x0a, .slice x0ba x0bn x0bc, .slice x0ca x0cn x0cc]] prot H = some (Value.tuple { toList := [Value.bool false, Value.agg { toList := [Value.string wa, Value.string wb, Value.string wc] }, Value.int .i64 x9] }, H) :=
  fn_of2 a13 [.e, .e, .v (.agg #[.int .i64 x8a, .slice x8ba x8bn x8bc, .slice x8ca x8cn x8cc]), .v (.int .i64 x9), .e, .b true, .e, .h H1, .v (.agg #[.string wa, .string wb, .string wc])] (ai h1 (ai h2 (ai h3 (ai h4 (ai h5 (ai h6 (ai h7 (Eq.refl ((Value.tuple { toList := [Value.bool false, Value.agg { toList := [Value.string wa, Value.string wb, Value.string wc] }, Value.int .i64 x9] }, H) : Value × AHeap))))))))) (by kernel_rfl) rfl
theorem f13_F_1 {x0a : Int} {x0ba : Option Addr} {x0bn x0bc : Nat} {x0ca : Option Addr} {x0cn x0cc : Nat} {H : AHeap} {prot : Nat} {x8a : Int} {x8ba : Option Addr} {x8bn x8bc : Nat} {x8ca : Option Addr} {x8cn x8cc : Nat} {x9 x15a : Int} {x15ba : Option Addr} {x15bn x15bc : Nat} {x15ca : Option Addr} {x15cn x15cc : Nat} {x16a : Bool} {x16ba x16bb x16bc : ByteArray} {H1 : AHeap} {x20a x20b x20c : ByteArray} {H2 : AHeap} {wa wb wc : ByteArray} (h1 : [Value.int .i64 x0a, Value.slice x0ba x0bn x0bc, Value.slice x0ca x0cn x0cc].all isCell = true) (h2 : getCells (H ++ [vo [Value.int .i64 x0a, Value.slice x0ba x0bn x0bc, Value.slice x0ca x0cn x0cc] 25] ++ [vo [Value.string { data := { toList := [] } }, Value.string { data := { toList := [] } }, Value.string { data := { toList := [] } }] 29]) (List.length H) [Value.int .i64 x0a, Value.slice x0ba x0bn x0bc, Value.slice x0ca x0cn x0cc].length 0 3 = some [Value.int .i64 x8a, Value.slice x8ba x8bn x8bc, Value.slice x8ca x8cn x8cc]) (h3 : callInf cfg 36 [Value.agg { toList := [Value.int .i64 x8a, Value.slice x8ba x8bn x8bc, Value.slice x8ca x8cn x8cc] }] (List.length H) (H ++ [vo [Value.int .i64 x0a, Value.slice x0ba x0bn x0bc, Value.slice x0ca x0cn x0cc] 25] ++ [vo [Value.string { data := { toList := [] } }, Value.string { data := { toList := [] } }, Value.string { data := { toList := [] } }] 29]) = some (Value.int .i64 x9, H ++ [vo [Value.int .i64 x0a, Value.slice x0ba x0bn x0bc, Value.slice x0ca x0cn x0cc] 25] ++ [vo [Value.string { data := { toList := [] } }, Value.string { data := { toList := [] } }, Value.string { data := { toList := [] } }] 29])) (h4 : (x9 != 0) = false) (h5 : getCells (H ++ [vo [Value.int .i64 x0a, Value.slice x0ba x0bn x0bc, Value.slice x0ca x0cn x0cc] 25] ++ [vo [Value.string { data := { toList := [] } }, Value.string { data := { toList := [] } }, Value.string { data := { toList := [] } }] 29]) (List.length H) [Value.int .i64 x0a, Value.slice x0ba x0bn x0bc, Value.slice x0ca x0cn x0cc].length 0 3 = some [Value.int .i64 x15a, Value.slice x15ba x15bn x15bc, Value.slice x15ca x15cn x15cc]) (h6 : callInf cfg 37 [Value.agg { toList := [Value.int .i64 x15a, Value.slice x15ba x15bn x15bc, Value.slice x15ca x15cn x15cc] }] (List.length H) (H ++ [vo [Value.int .i64 x0a, Value.slice x0ba x0bn x0bc, Value.slice x0ca x0cn x0cc] 25] ++ [vo [Value.string { data := { toList := [] } }, Value.string { data := { toList := [] } }, Value.string { data := { toList := [] } }] 29]) = some (Value.tuple { toList := [Value.bool x16a, Value.agg { toList := [Value.string x16ba, Value.string x16bb, Value.string x16bc] }] }, H ++ [vo [Value.int .i64 x0a, Value.slice x0ba x0bn x0bc, Value.slice x0ca x0cn x0cc] 25] ++ [vo [Value.string { data := { toList := [] } }, Value.string { data := { toList := [] } }, Value.string { data := { toList := [] } }] 29])) (h7 : [Value.string x16ba, Value.string x16bb, Value.string x16bc].length = 3) (h8 : setCells (H ++ [vo [Value.int .i64 x0a, Value.slice x0ba x0bn x0bc, Value.slice x0ca x0cn x0cc] 25] ++ [vo [Value.string { data := { toList := [] } }, Value.string { data := { toList := [] } }, Value.string { data := { toList := [] } }] 29] ++ [vo [Value.string { data := { toList := [] } }, Value.string { data := { toList := [] } }, Value.string { data := { toList := [] } }] 29]) (List.length H) (List.length (H ++ [vo [Value.int .i64 x0a, Value.slice x0ba x0bn x0bc, Value.slice x0ca x0cn x0cc] 25] ++ [vo [Value.string { data := { toList := [] } }, Value.string { data := { toList := [] } }, Value.string { data := { toList := [] } }] 29])) [Value.string { data := { toList := [] } }, Value.string { data := { toList := [] } }, Value.string { data := { toList := [] } }].length 0 [Value.string x16ba, Value.string x16bb, Value.string x16bc] = some H1) (h9 : getCells H1 (List.length (H ++ [vo [Value.int .i64 x0a, Value.slice x0ba x0bn x0bc, Value.slice x0ca x0cn x0cc] 25] ++ [vo [Value.string { data := { toList := [] } }, Value.string { data := { toList := [] } }, Value.string { data := { toList := [] } }] 29])) [Value.string { data := { toList := [] } }, Value.string { data := { toList := [] } }, Value.string { data := { toList := [] } }].length 0 3 = some [Value.string x20a, Value.string x20b, Value.string x20c]) (h10 : [Value.string x20a, Value.string x20b, Value.string x20c].length = 3) (h11 : setCells H1 (List.length H) (List.length (H ++ [vo [Value.int .i64 x0a, Value.slice x0ba x0bn x0bc, Value.slice x0ca x0cn x0cc] 25])) [Value.string { data := { toList := [] } }, Value.string { data := { toList := [] } }, Value.string { data := { toList := [] } }].length 0 [Value.string x20a, Value.string x20b, Value.string x20c] = some H2) (h12 : getCells H2 (List.length (H ++ [vo [Value.int .i64 x0a, Value.slice x0ba x0bn x0bc, Value.slice x0ca x0cn x0cc] 25])) [Value.string { data := { toList := [] } }, Value.string { data := { toList := [] } }, Value.string { data := { toList := [] } }].length 0 3 = some [Value.string wa, Value.string wb, Value.string wc]) : callInf cfg 13 [.agg #[.int .i64 x0a, .slice x0ba x0bn x0bc, .slice x0ca x0cn x0cc]] prot H = some (Value.tuple { toList := [Value.bool x16a, Value.agg { toList := [Value.string wa, Value.string wb, Value.string wc] }, Value.int .i64 0] }, H) :=
  fn_of2 a13 [.e, .e, .v (.agg #[.int .i64 x8a, .slice x8ba x8bn x8bc, .slice x8ca x8cn x8cc]), .v (.int .i64 x9), .e, .b false, .v (.agg #[.int .i64 x15a, .slice x15ba x15bn x15bc, .slice x15ca x15cn x15cc]), .v (.tuple #[.bool x16a, .agg #[.string x16ba, .string x16bb, .string x16bc]]), .e, .h H1, .v (.agg #[.string x20a, .string x20b, .string x20c]), .h H2, .v (.agg #[.string wa, .string wb, .string wc])] (ai h1 (ai h2 (ai h3 (ai h4 (ai h5 (ai h6 (ai h7 (ai h8 (ai h9 (ai h10 (ai h11 (ai h12 (Eq.refl ((Value.tuple { toList := [Value.bool x16a, Value.agg { toList := [Value.string wa, Value.string wb, Value.string wc] }, Value.int .i64 0] }, H) : Value × AHeap)))))))))))))) (by kernel_rfl) rfl
end Go.Proofs.Ythjkodbinkiifaa.Am23
namespace Go.Proofs.Ythjkodbinkiifaa.Am23
open Go Go.Proofs.Ythjkodbinkiifaa.Am

abbrev pv (v : ByteArray × ByteArray × ByteArray) : Value := .agg #[.string v.1, .string v.2.1, .string v.2.2]
theorem set3s {H : AHeap} {p prot : Nat} {a b c x y z : Value} {e : TypeId} (h : H[p]? = some (.cells [a, b, c] e 3 .var)) (hp : prot ≤ p) (hv : [x, y, z].all isCell = true) :
    ∃ H', setCells H prot p 3 0 [x, y, z] = some H' ∧ getCells H' p 3 0 3 = some [x, y, z] ∧ Stay (some p) H H' ∧ H'[p]? = some (.cells [x, y, z] e 3 .var) := by
  have hl := (List.getElem?_eq_some_iff.1 h).1
  have hg : (H.set p (.cells [x, y, z] e 3 .var))[p]? = some (.cells [x, y, z] e 3 .var) := List.getElem?_set_self hl
  exact ⟨_, setAll3 h hp hv, (fld3 hg).2.2.2, ⟨by simp, fun q _ hq => List.getElem?_set_ne (fun e => hq (by rw [e]))⟩, hg⟩

theorem c37 {k : Nat} {xs : List Int} {bs : List Bool} {vN vA : Value} (hG : Good k xs bs) (prot : Nat) (H : AHeap) (hA : IsA H xs bs vN vA) :
    callInf cfg 37 [av k vN vA] prot H = some (.tuple #[.bool (boundV k xs bs).1, pv (boundV k xs bs).2], H) := by
  have hb1 := hG.n1
  have hb5 := hG.n5
  obtain ⟨B0, hB0⟩ : ∃ B0, B0 = AObj.cells [.string ByteArray.empty, .string ByteArray.empty, .string ByteArray.empty] 29 3 .var := ⟨_, rfl⟩
  obtain ⟨HX, hHX⟩ : ∃ HX, HX = H ++ [bx k vN vA] ++ [B0] := ⟨_, rfl⟩
  have lX : HX.length = H.length + 2 := by rw [hHX]; simp
  have sX : Stay none H HX := by rw [hHX]; exact (Stay.app none H _).trans (Stay.app none _ _)
  have hgX : HX[H.length]? = some (bx k vN vA) := by rw [hHX, List.getElem?_append_left (by simp)]; exact append_get.1
  have hgX1 : HX[H.length + 1]? = some B0 := by rw [hHX, List.getElem?_append_right (by simp)]; simp
  have hAX := hA.stay sX
  obtain ⟨p1, d1, H1, r1, r2, r3⟩ := c53 hG H.length HX hAX
  obtain ⟨x, y, p2, q2, c2, d2, H2, s1, rfl, rfl, s2, s3, s4, s5⟩ := c65 hG (a := 0) (by omega) true H.length H1 (hAX.stay r3)
  have hg1 : H1[H.length]? = some (bx k vN vA) := by rw [r3.2 _ (by omega) (by simp)]; exact hgX
  have st2 := r3.trans s4
  have hg2 : H2[H.length]? = some (bx k vN vA) := by rw [st2.2 _ (by omega) (by simp)]; exact hgX
  have l2 := st2.1
  obtain ⟨H3, t1, t2⟩ := loop37a hG (prot := prot) (x3 := .pointer (some ⟨H.length + 1, 0, some 3⟩)) (useL_len k xs bs) bs.length 0 none H2 (by omega) (fun t h => by cases h) hg2 (hAX.stay st2) (by omega) ⟨_, _, _, rfl⟩ (r2.stay s4 (fun id _ h => by cases h)) s2
  have st3 := st2.trans t2
  have l3 := st3.1
  have hg3 : H3[H.length]? = some (bx k vN vA) := by rw [st3.2 _ (by omega) (by simp)]; exact hgX
  have hg31 : H3[H.length + 1]? = some B0 := by rw [st3.2 _ (by omega) (by simp)]; exact hgX1
  have hA3 := hAX.stay st3
  rw [show pick (okB k xs bs.length (useL k xs bs)) (wd0 k xs bs.length 0) bs.length 0 none = bestV k xs bs from rfl] at t1
  have e1 : (H ++ [bx k vN vA]).length = H.length + 1 := by simp
  obtain ⟨aN, cN, rfl⟩ := hA.n.len
  obtain ⟨aA, cA, rfl⟩ := hA.a.len
  obtain ⟨_, _, _, gX⟩ := fld3 hgX
  obtain ⟨_, _, _, g1⟩ := fld3 hg1
  cases hbv : bestV k xs bs with
  | none =>
    rw [hbv] at t1
    rw [hB0] at hg31
    obtain ⟨H4, u1, u2, _, _⟩ := set3s hg31 (show H.length ≤ H.length + 1 by omega) (x := .string ByteArray.empty) (y := .string ByteArray.empty) (z := .string ByteArray.empty) rfl
    have hv : boundV k xs bs = (true, ByteArray.empty, ByteArray.empty, ByteArray.empty) := by unfold boundV; rw [hbv]
    rw [hv]
    subst hHX; subst hB0
    rw [← e1] at t1 u1 u2
    exact f37_F_0 all3 gX r1 g1 s1 t1 (by decide) rfl u1 u2
  | some b =>
    rw [hbv] at t1
    obtain ⟨hb, _, e, he1, he2, he3⟩ := best_end hG hbv
    obtain ⟨x4, y4, p4, q4, c4, d4, H4, v1, rfl, rfl, v2, v3, v4, v5⟩ := c65 hG hb false H.length H3 hA3
    obtain ⟨x5, y5, p5, q5, c5, d5, H5, w1, rfl, rfl, w2, w3, w4, w5⟩ := c65 hG hb true H.length H4 (hA3.stay v4)
    have st5 := st3.trans (v4.trans w4)
    have l5 := st5.1
    have hg4 : H4[H.length]? = some (bx k (.slice aN xs.length cN) (.slice aA bs.length cA)) := by rw [(st3.trans v4).2 _ (by omega) (by simp)]; exact hgX
    have hg5 : H5[H.length]? = some (bx k (.slice aN xs.length cN) (.slice aA bs.length cA)) := by rw [st5.2 _ (by omega) (by simp)]; exact hgX
    have hg51 : H5[H.length + 1]? = some B0 := by rw [st5.2 _ (by omega) (by simp)]; exact hgX1
    have hA5 := hAX.stay st5
    have hl := loop37b hG hb (prot := prot) (x3 := .pointer (some ⟨H.length + 1, 0, some 3⟩)) (x5 := .slice p2 bs.length c2) (x11 := .slice p4 bs.length c4) (x7 := (b : Int)) hg5 hA5 ⟨_, _, _, rfl⟩ ⟨_, _, _, rfl⟩ ⟨_, _, _, rfl⟩ w2 w3 bs.length 0 none (by omega) (fun t h => by cases h)
    rw [show pick (okE k xs bs b) (wd0 k xs bs.length b) bs.length 0 none = endV k xs bs b from rfl, he1] at hl
    have hok0 := bfs_ok hG (show 0 < bs.length by omega) true
    have hokf := bfs_ok hG hb false
    have hokt := bfs_ok hG hb true
    have o5 := s2.stay (t2.trans (v4.trans w4)) (fun id _ h => by cases h)
    have o11 := v2.stay w4 (fun id _ h => by cases h)
    obtain ⟨_, ee, y1, y2⟩ := own_at T43 o5 (sl_at (show b < (bfs k xs bs.length 0 true).ws.length by rw [hok0.lw]; exact hb))
    cases ee
    obtain ⟨_, ee, z1, z2⟩ := own_at T43 o11 (sl_at (show b < (bfs k xs bs.length b false).ws.length by rw [hokf.lw]; exact hb))
    cases ee
    obtain ⟨_, ee, q1, q2'⟩ := own_at T43 w2 (sl_at (show e < (bfs k xs bs.length b true).ws.length by rw [hokt.lw]; exact he2))
    cases ee
    rw [hB0] at hg51
    obtain ⟨H6, u1, u2, _, _⟩ := set3s hg51 (show H.length ≤ H.length + 1 by omega) (x := .string (wd0 k xs bs.length 0 b)) (y := .string (lw ((bfs k xs bs.length b false).ws.getD b []))) (z := .string (wd0 k xs bs.length b e)) rfl
    have hv : boundV k xs bs = (false, wd0 k xs bs.length 0 b, lw ((bfs k xs bs.length b false).ws.getD b []), wd0 k xs bs.length b e) := by unfold boundV; rw [hbv]; simp only; rw [he1]; rfl
    rw [hv]
    obtain ⟨_, _, _, g3⟩ := fld3 hg3
    obtain ⟨_, _, _, g4⟩ := fld3 hg4
    obtain ⟨_, _, g5, _⟩ := fld3 hg5
    subst hHX; subst hB0
    rw [← e1] at t1 u1 u2 hl
    exact f37_F_1 all3 gX r1 g1 s1 t1 (by simp only [bi]; omega) g3 v1 g4 w1 g5 hl y1 y2 z1 z2 q1 q2' rfl u1 u2

/-- What Finite answers. -/
noncomputable def finV (k : Int) (xs : List Int) (bs : List Bool) : Bool × (ByteArray × ByteArray × ByteArray) × Int :=
  if chkG k xs bs = 0 then ((boundV k.toNat xs bs).1, (boundV k.toNat xs bs).2, 0) else (false, (ByteArray.empty, ByteArray.empty, ByteArray.empty), chkG k xs bs)
theorem c13 {k : Int} {xs : List Int} {bs : List Bool} {vN vA : Value} (prot : Nat) (H : AHeap) (hA : IsA H xs bs vN vA) :
    callInf cfg 13 [av k vN vA] prot H = some (.tuple #[.bool (finV k xs bs).1, pv (finV k xs bs).2.1, .int .i64 (finV k xs bs).2.2], H) := by
  obtain ⟨B0, hB0⟩ : ∃ B0, B0 = AObj.cells [.string ByteArray.empty, .string ByteArray.empty, .string ByteArray.empty] 29 3 .var := ⟨_, rfl⟩
  obtain ⟨HX, hHX⟩ : ∃ HX, HX = H ++ [bx k vN vA] ++ [B0] := ⟨_, rfl⟩
  have lX : HX.length = H.length + 2 := by rw [hHX]; simp
  have sX : Stay none H HX := by rw [hHX]; exact (Stay.app none H _).trans (Stay.app none _ _)
  have hgX : HX[H.length]? = some (bx k vN vA) := by rw [hHX, List.getElem?_append_left (by simp)]; exact append_get.1
  have hgX1 : HX[H.length + 1]? = some B0 := by rw [hHX, List.getElem?_append_right (by simp)]; simp
  have hAX := hA.stay sX
  have hck := c36 (k := k) H.length HX hAX
  have e1 : (H ++ [bx k vN vA]).length = H.length + 1 := by simp
  by_cases h0 : chkG k xs bs = 0
  · obtain ⟨k', rfl, hG⟩ := good_of h0
    have hb := c37 hG H.length HX hAX
    have hv : finV k' xs bs = ((boundV k' xs bs).1, (boundV k' xs bs).2, 0) := by unfold finV; rw [if_pos h0, Int.toNat_natCast]
    rw [hv]
    rw [h0] at hck
    obtain ⟨aN, cN, rfl⟩ := hA.n.len
    obtain ⟨aA, cA, rfl⟩ := hA.a.len
    obtain ⟨_, _, _, gX⟩ := fld3 hgX
    have hgY : (HX ++ [B0])[HX.length]? = some B0 := append_get.1
    rw [hB0] at hgY
    obtain ⟨H1, u1, u2, u3, _⟩ := set3s hgY (show H.length ≤ HX.length by omega) (x := .string (boundV k' xs bs).2.1) (y := .string (boundV k' xs bs).2.2.1) (z := .string (boundV k' xs bs).2.2.2) rfl
    have hg1 : H1[H.length + 1]? = some B0 := by
      rw [u3.2 _ (by simp; omega) (fun h => by have := Option.some.inj h; omega), List.getElem?_append_left (by omega)]; exact hgX1
    rw [hB0] at hg1
    obtain ⟨H2, v1, v2, v3, _⟩ := set3s hg1 (show H.length ≤ H.length + 1 by omega) (x := .string (boundV k' xs bs).2.1) (y := .string (boundV k' xs bs).2.2.1) (z := .string (boundV k' xs bs).2.2.2) rfl
    subst hHX; subst hB0
    rw [← e1] at v1 v2
    exact f13_F_1 all3 gX hck rfl gX hb rfl u1 u2 rfl v1 v2
  · have hv : finV k xs bs = (false, (ByteArray.empty, ByteArray.empty, ByteArray.empty), chkG k xs bs) := by unfold finV; rw [if_neg h0]
    rw [hv]
    obtain ⟨aN, cN, rfl⟩ := hA.n.len
    obtain ⟨aA, cA, rfl⟩ := hA.a.len
    obtain ⟨_, _, _, gX⟩ := fld3 hgX
    rw [hB0] at hgX1
    obtain ⟨H2, v1, v2, v3, _⟩ := set3s hgX1 (show H.length ≤ H.length + 1 by omega) (x := .string ByteArray.empty) (y := .string ByteArray.empty) (z := .string ByteArray.empty) rfl
    subst hHX; subst hB0
    rw [← e1] at v1 v2
    exact f13_F_0 all3 gX hck (by simpa using h0) rfl v1 v2
end Go.Proofs.Ythjkodbinkiifaa.Am23
namespace Go.Proofs.Ythjkodbinkiifaa.Am
open Go

end Go.Proofs.Ythjkodbinkiifaa.Am
namespace Go.Proofs.Ythjkodbinkiifaa.Am
open Go
theorem Rd.stayNe {H H' : AHeap} {e s : Nat} {x : Value} {n : Nat} {cs : List Value} (h : Rd H e s x n cs) {o : Option Nat} (k : Stay o H H') (hne : ∀ id off L n c, x = .slice (some ⟨id, off, some L⟩) n c → o ≠ some id) : Rd H' e s x n cs := by
  refine ⟨h.1, ?_⟩
  rcases h.2 with h2 | ⟨id, L, wr, md, c, all, h2, h3, h4, h5, h6, h7⟩
  · exact .inl h2
  · exact .inr ⟨id, L, wr, md, c, all, h2, h3, h4, h5, by rw [k.2 id (List.getElem?_eq_some_iff.1 h6).1 (hne _ _ _ _ _ h2)]; exact h6, h7⟩
end Go.Proofs.Ythjkodbinkiifaa.Am
set_option linter.unusedVariables false
open Go Go.Proofs.Ythjkodbinkiifaa.Am
namespace Go.Proofs.Ythjkodbinkiifaa.Am23
end Go.Proofs.Ythjkodbinkiifaa.Am23
set_option linter.unusedVariables false
open Go Go.Proofs.Ythjkodbinkiifaa.Am
namespace Go.Proofs.Ythjkodbinkiifaa.Am23
end Go.Proofs.Ythjkodbinkiifaa.Am23
namespace Go.Proofs.Ythjkodbinkiifaa.Am23
open Go Go.Proofs.Ythjkodbinkiifaa.Am

theorem pfin_agg {fn : AFunc} {H H' : AHeap} {cs : Array Value} (hm : fn.muts = false) (h : plain1 (.agg cs) = false) : pfin fn H [.agg cs] H' = (.agg cs, H') := by
  rw [pfin_eq, if_neg (by rw [hm]; simp)]
  exact gc_agg h
end Go.Proofs.Ythjkodbinkiifaa.Am23
namespace Go.Proofs.Ythjkodbinkiifaa.Am
open Go
theorem putList_one (L : List Value) {i : Nat} (hi : i < L.length) (v : Value) : putList L (0 + i * 1) [v] = L.set i v := by
  unfold putList
  rw [Nat.mul_one, Nat.zero_add, List.set_eq_take_append_cons_drop, if_pos hi]
  simp
/-- An array in a variable: a part is read, is written; all of it. -/
theorem arr_get {H : AHeap} {p e n : Nat} {L : List Value} {md : OMode} (h : H[p]? = some (.cells L e n md)) (hl : L.length = n) {i : Nat} {v : Value} (hv : L[i]? = some v) : getCells H p n (0 + i * 1) 1 = some [v] := by
  have hi := (List.getElem?_eq_some_iff.1 hv).1
  unfold getCells
  rw [h]
  simp only
  rw [if_pos ⟨Nat.le_refl _, by omega, by omega⟩, Nat.mul_one, Nat.zero_add, List.drop_eq_getElem_cons hi]
  rw [List.getElem?_eq_getElem hi] at hv
  simp [Option.some.inj hv]
theorem arr_set {H : AHeap} {p e n prot : Nat} {L : List Value} (h : H[p]? = some (.cells L e n .var)) (hl : L.length = n) (hp : prot ≤ p) {i : Nat} (hi : i < n) {v : Value} (hv : isCell v = true) :
    setCells H prot p n (0 + i * 1) [v] = some (H.set p (.cells (L.set i v) e n .var)) := by
  unfold setCells
  rw [h]
  simp only
  rw [if_pos ⟨rfl, hp, by omega, by simp; omega, by simp [hv]⟩, putList_one L (by omega)]
theorem arr_all {H : AHeap} {p e n : Nat} {L : List Value} {md : OMode} (h : H[p]? = some (.cells L e n md)) (hl : L.length = n) : getCells H p n 0 n = some L := by
  unfold getCells
  rw [h]
  simp only
  rw [if_pos ⟨Nat.le_refl _, by omega, by omega⟩, List.drop_zero, List.take_of_length_le (by omega)]
theorem arr_put {H : AHeap} {p e n prot : Nat} {L L' : List Value} (h : H[p]? = some (.cells L e n .var)) (hl : L.length = n) (hp : prot ≤ p) (hl' : L'.length = n) (hv : L'.all isCell = true) :
    setCells H prot p n 0 L' = some (H.set p (.cells L' e n .var)) := by
  unfold setCells
  rw [h]
  simp only
  rw [if_pos ⟨rfl, hp, by omega, by omega, hv⟩]
  unfold putList
  rw [List.take_zero, List.nil_append, Nat.zero_add, List.drop_of_length_le (by omega), List.append_nil]
theorem set_stay {H : AHeap} {p : Nat} {o : AObj} : Stay (some p) H (H.set p o) := ⟨by simp, fun q _ hq => List.getElem?_set_ne (fun e => hq (by rw [e]))⟩
/-- A variable of an array's type is made. -/
theorem alloc_arr {P : Program} {t n : Nat} {z : Value} (hz : tzero P t = some (.agg ((List.replicate n z).toArray))) (hp : plain0 z = true) (H : AHeap) :
    aalloc P t H = some (.pointer (some ⟨H.length, 0, some n⟩), H ++ [.cells (List.replicate n z) t n .var]) := by
  unfold aalloc
  rw [hz, Option.bind_some]
  have e : cellsOf (.agg ((List.replicate n z).toArray)) = List.replicate n z := by simp [cellsOf, Value.cells]
  rw [e]
  rw [if_pos (by rw [List.all_eq_true]; intro x hx; rw [List.mem_replicate] at hx; rw [hx.2]; exact hp)]
  simp [ptrTo, newVarObj]
end Go.Proofs.Ythjkodbinkiifaa.Am
set_option linter.unusedVariables false
open Go Go.Proofs.Ythjkodbinkiifaa.Am
namespace Go.Proofs.Ythjkodbinkiifaa.Am23
theorem f45_F_0 {x0a : Int} {x0ba : Option Addr} {x0bn x0bc : Nat} {x0ca : Option Addr} {x0cn x0cc : Nat} {H : AHeap} {prot x2p x2o x2l : Nat} {H1 : AHeap} {x3p x3o x3l : Nat} {H2 : AHeap} {x9a : Option Addr} {x9n x9c : Nat} {H3 : AHeap} {z2p z2o z2l z3p z3o z3l : Nat} {H4 : AHeap} {x53 : Array Value} {H5 : AHeap} {w : Array Value} (rv : Value) (rH : AHeap) (h1 : [Value.int .i64 x0a, Value.slice x0ba x0bn x0bc, Value.slice x0ca x0cn x0cc].all isCell = true) (h2 : aalloc cfg.P 72 (H ++ [vo [Value.int .i64 x0a, Value.slice x0ba x0bn x0bc, Value.slice x0ca x0cn x0cc] 25]) = some (Value.pointer (some ⟨x2p, x2o, some x2l⟩), H1)) (h3 : aalloc cfg.P 72 H1 = some (Value.pointer (some ⟨x3p, x3o, some x3l⟩), H2)) (h4 : getCells H2 (List.length H) [Value.int .i64 x0a, Value.slice x0ba x0bn x0bc, Value.slice x0ca x0cn x0cc].length (0 + 2) 1 = some [Value.slice x9a x9n x9c]) (h5 : (0 : Int) ≤ 0) (h6 : 0 < (↑4097 : Int)) (h7 : [Value.slice x9a x9n x9c].length = 1) (h8 : setCells H2 (List.length H) x3p x3l (x3o + Int.toNat 0 * 1) [Value.slice x9a x9n x9c] = some H3) (h9 : lpInf (lpOf cfg a45 0 prot H) ([Value.pointer (some ⟨List.length H, 0, some [Value.int .i64 x0a, Value.slice x0ba x0bn x0bc, Value.slice x0ca x0cn x0cc].length⟩), Value.pointer (some ⟨x2p, x2o, some x2l⟩), Value.pointer (some ⟨x3p, x3o, some x3l⟩), Value.int .i64 0], H3) = some (Ex.exit 0, [Value.pointer (some ⟨z2p, z2o, some z2l⟩), Value.pointer (some ⟨z3p, z3o, some z3l⟩)], H4)) (h10 : getCells H4 z3p z3l z3o 4097 = some x53.toList) (h11 : x53.toList.length = 4097) (h12 : setCells H4 (List.length H) z2p z2l z2o x53.toList = some H5) (h13 : getCells H5 z2p z2l z2o 4097 = some w.toList) (h14 : pfin a45 H [Value.agg w] H5 = (rv, rH)) : callInf cfg 45 [.agg #[.int .i64 x0a, .slice x0ba x0bn x0bc, .slice x0ca x0cn x0cc]] prot H = some (rv, rH) :=
  fn_of2 a45 [.e, .r (.pointer (some ⟨x2p, x2o, some x2l⟩)) H1, .r (.pointer (some ⟨x3p, x3o, some x3l⟩)) H2, .v (.slice x9a x9n x9c), .e, .h H3, .lo (.exit 0, [.pointer (some ⟨z2p, z2o, some z2l⟩), .pointer (some ⟨z3p, z3o, some z3l⟩)], H4), .v (.agg x53), .h H5, .v (.agg w)] (ai h1 (ai h2 (ai h3 (ai h4 (ai h5 (ai h6 (ai h7 (ai h8 (ai h9 (ai h10 (ai h11 (ai h12 (ai h13 h14))))))))))))) (by kernel_rfl) rfl
theorem f45_L0_0 {x1p x1o x1l x2p x2o x2l x3p x3o x3l : Nat} {x11 : Int} {H0 : AHeap} {prot : Nat} {H : AHeap} {x15a : Option Addr} {x15n x15c : Nat} {x19a : Option Addr} {x19n x19c z1p z1o z1l z2p z2o z2l z3p z3o z3l : Nat} {z4 : Int} {z5a : Option Addr} {z5n z5c : Nat} {z11 : Int} {H2 H3 : AHeap} (h1 : x11 < 4096) (h2 : getCells H x1p x1l (x1o + 2) 1 = some [Value.slice x15a x15n x15c]) (h3 : 0 ≤ (↑x15n : Int)) (h4 : (↑x15n : Int) = (↑x15n : Int)) (h5 : (↑x15n : Int) ≤ 9223372036854775807) (h6 : (↑1 : Int) * (↑x15n : Int) ≤ 2 ^ 48) (h7 : getCells (H ++ [AObj.cells (repCells [Value.bool false] (↑x15n : Int).toNat) 4 (repCells [Value.bool false] (↑x15n : Int).toNat).length OMode.row]) x1p x1l (x1o + 1) 1 = some [Value.slice x19a x19n x19c]) (h8 : lpInf (lpOf cfg a45 1 prot H0) ([Value.pointer (some ⟨x1p, x1o, some x1l⟩), Value.pointer (some ⟨x2p, x2o, some x2l⟩), Value.pointer (some ⟨x3p, x3o, some x3l⟩), Value.int .i64 x11, Value.slice (some ⟨List.length H, 0, some ((↑x15n : Int).toNat * 1)⟩) (↑x15n : Int).toNat (↑x15n : Int).toNat, Value.int .i64 x11, Value.slice x19a x19n x19c, Value.int .i64 (↑x19n : Int), Value.int .i64 0], H ++ [AObj.cells (repCells [Value.bool false] (↑x15n : Int).toNat) 4 (repCells [Value.bool false] (↑x15n : Int).toNat).length OMode.row]) = some (Ex.exit 2, [Value.pointer (some ⟨z1p, z1o, some z1l⟩), Value.pointer (some ⟨z2p, z2o, some z2l⟩), Value.pointer (some ⟨z3p, z3o, some z3l⟩), Value.int .i64 z4, Value.slice z5a z5n z5c, Value.int .i64 z11], H2)) (h9 : Fit .i64 (z4 + 1)) (h10 : 0 ≤ z4 + 1) (h11 : z4 + 1 < (↑4097 : Int)) (h12 : [Value.slice z5a z5n z5c].length = 1) (h13 : setCells H2 (List.length H0) z3p z3l (z3o + (z4 + 1).toNat * 1) [Value.slice z5a z5n z5c] = some H3) (h14 : Fit .i64 (z11 + 1)) : lpOf cfg a45 0 prot H0 ([.pointer (some ⟨x1p, x1o, some x1l⟩), .pointer (some ⟨x2p, x2o, some x2l⟩), .pointer (some ⟨x3p, x3o, some x3l⟩), .int .i64 x11], H) = some (Sum.inl ([Value.pointer (some ⟨z1p, z1o, some z1l⟩), Value.pointer (some ⟨z2p, z2o, some z2l⟩), Value.pointer (some ⟨z3p, z3o, some z3l⟩), Value.int .i64 (z11 + 1)], H3)) :=
  lp_of2 [.e, .b true, .v (.slice x15a x15n x15c), .e, .e, .v (.slice x19a x19n x19c), .e, .lo (.exit 2, [.pointer (some ⟨z1p, z1o, some z1l⟩), .pointer (some ⟨z2p, z2o, some z2l⟩), .pointer (some ⟨z3p, z3o, some z3l⟩), .int .i64 z4, .slice z5a z5n z5c, .int .i64 z11], H2), .e, .e, .h H3, .e] (ai (decide_eq_true h1) (ai h2 (ai h3 (ai h4 (ai h5 (ai h6 (ai h7 (ai h8 (ai h9 (ai h10 (ai h11 (ai h12 (ai h13 (ai h14 (Eq.refl (Sum.inl ([Value.pointer (some ⟨z1p, z1o, some z1l⟩), Value.pointer (some ⟨z2p, z2o, some z2l⟩), Value.pointer (some ⟨z3p, z3o, some z3l⟩), Value.int .i64 (z11 + 1)], H3) : LS ⊕ LO)))))))))))))))) (by kernel_rfl)
theorem f45_L0_1 {x1p x1o x1l x2p x2o x2l x3p x3o x3l : Nat} {x11 : Int} {H0 : AHeap} {prot : Nat} {H : AHeap} (h1 : ¬(x11 < 4096)) : lpOf cfg a45 0 prot H0 ([.pointer (some ⟨x1p, x1o, some x1l⟩), .pointer (some ⟨x2p, x2o, some x2l⟩), .pointer (some ⟨x3p, x3o, some x3l⟩), .int .i64 x11], H) = some (Sum.inr (Ex.exit 0, [Value.pointer (some ⟨x2p, x2o, some x2l⟩), Value.pointer (some ⟨x3p, x3o, some x3l⟩)], H)) :=
  lp_of2 [.e, .b false] (ai (decide_eq_false h1) (Eq.refl (Sum.inr (Ex.exit 0, [Value.pointer (some ⟨x2p, x2o, some x2l⟩), Value.pointer (some ⟨x3p, x3o, some x3l⟩)], H) : LS ⊕ LO))) (by kernel_rfl)
theorem f45_L1_0 {x1p x1o x1l x2p x2o x2l x3p x3o x3l : Nat} {x4 : Int} {x5a : Option Addr} {x5n x5c : Nat} {x11 : Int} {x19a : Option Addr} {x19n x19c : Nat} {x20 x21 : Int} {H0 : AHeap} {prot : Nat} {H : AHeap} {x24p x24o x24l : Nat} {x25 x29 x34 : Int} {x36p x36o x36l : Nat} {x37 : Bool} {x46p x46o x46l : Nat} {H2 : AHeap} (h1 : x21 < x20) (h2 : aindexAddr cfg.P 22 (Value.slice x19a x19n x19c) (Value.int .i64 x21) = some (Value.pointer (some ⟨x24p, x24o, some x24l⟩))) (h3 : getCells H x24p x24l x24o 1 = some [Value.int .i64 x25]) (h4 : getCells H x1p x1l (x1o + 0) 1 = some [Value.int .i64 x29]) (h5 : x29 ≠ 0) (h6 : Fit .i64 (x21.tdiv x29)) (h7 : getCells H x1p x1l (x1o + 0) 1 = some [Value.int .i64 x34]) (h8 : x34 ≠ 0) (h9 : Fit .i64 (x21.tdiv x34)) (h10 : aindexAddr cfg.P 23 (Value.slice x5a x5n x5c) (Value.int .i64 (x21.tdiv x34)) = some (Value.pointer (some ⟨x36p, x36o, some x36l⟩))) (h11 : getCells H x36p x36l x36o 1 = some [Value.bool x37]) (h12 : x37 = true) (h13 : aindexAddr cfg.P 23 (Value.slice x5a x5n x5c) (Value.int .i64 (x21.tdiv x29)) = some (Value.pointer (some ⟨x46p, x46o, some x46l⟩))) (h14 : [Value.bool true].length = 1) (h15 : setCells H (List.length H0) x46p x46l x46o [Value.bool true] = some H2) (h16 : Fit .i64 (x21 + 1)) : lpOf cfg a45 1 prot H0 ([.pointer (some ⟨x1p, x1o, some x1l⟩), .pointer (some ⟨x2p, x2o, some x2l⟩), .pointer (some ⟨x3p, x3o, some x3l⟩), .int .i64 x4, .slice x5a x5n x5c, .int .i64 x11, .slice x19a x19n x19c, .int .i64 x20, .int .i64 x21], H) = some (Sum.inl ([Value.pointer (some ⟨x1p, x1o, some x1l⟩), Value.pointer (some ⟨x2p, x2o, some x2l⟩), Value.pointer (some ⟨x3p, x3o, some x3l⟩), Value.int .i64 x4, Value.slice x5a x5n x5c, Value.int .i64 x11, Value.slice x19a x19n x19c, Value.int .i64 x20, Value.int .i64 (x21 + 1)], H2)) :=
  lp_of2 [.e, .b true, .v (.pointer (some ⟨x24p, x24o, some x24l⟩)), .v (.int .i64 x25), .v (.int .i64 x29), .e, .v (.int .i64 x34), .e, .v (.pointer (some ⟨x36p, x36o, some x36l⟩)), .v (.bool x37), .b true, .b true, .b true, .b true, .b true, .b true, .b true, .v (.pointer (some ⟨x46p, x46o, some x46l⟩)), .h H2, .e] (ai (decide_eq_true h1) (ai h2 (ai h3 (ai h4 (ai h5 (ai h6 (ai h7 (ai h8 (ai h9 (ai h10 (ai h11 (ai h12 (ai h12 (ai h12 (ai h12 (ai h12 (ai h12 (ai h12 (ai h13 (ai h14 (ai h15 (ai h16 (Eq.refl (Sum.inl ([Value.pointer (some ⟨x1p, x1o, some x1l⟩), Value.pointer (some ⟨x2p, x2o, some x2l⟩), Value.pointer (some ⟨x3p, x3o, some x3l⟩), Value.int .i64 x4, Value.slice x5a x5n x5c, Value.int .i64 x11, Value.slice x19a x19n x19c, Value.int .i64 x20, Value.int .i64 (x21 + 1)], H2) : LS ⊕ LO)))))))))))))))))))))))) (by kernel_rfl)
theorem f45_L1_1 {x1p x1o x1l x2p x2o x2l x3p x3o x3l : Nat} {x4 : Int} {x5a : Option Addr} {x5n x5c : Nat} {x11 : Int} {x19a : Option Addr} {x19n x19c : Nat} {x20 x21 : Int} {H0 : AHeap} {prot : Nat} {H : AHeap} {x24p x24o x24l : Nat} {x25 x29 x34 : Int} {x36p x36o x36l : Nat} {x37 : Bool} {x41a : Option Addr} {x41n x41c x43p x43o x43l : Nat} {x44 : Bool} {x46p x46o x46l : Nat} {H2 : AHeap} (h1 : x21 < x20) (h2 : aindexAddr cfg.P 22 (Value.slice x19a x19n x19c) (Value.int .i64 x21) = some (Value.pointer (some ⟨x24p, x24o, some x24l⟩))) (h3 : getCells H x24p x24l x24o 1 = some [Value.int .i64 x25]) (h4 : getCells H x1p x1l (x1o + 0) 1 = some [Value.int .i64 x29]) (h5 : x29 ≠ 0) (h6 : Fit .i64 (x21.tdiv x29)) (h7 : getCells H x1p x1l (x1o + 0) 1 = some [Value.int .i64 x34]) (h8 : x34 ≠ 0) (h9 : Fit .i64 (x21.tdiv x34)) (h10 : aindexAddr cfg.P 23 (Value.slice x5a x5n x5c) (Value.int .i64 (x21.tdiv x34)) = some (Value.pointer (some ⟨x36p, x36o, some x36l⟩))) (h11 : getCells H x36p x36l x36o 1 = some [Value.bool x37]) (h12 : x37 = false) (h13 : 0 ≤ x4) (h14 : x4 < (↑4097 : Int)) (h15 : getCells H x3p x3l (x3o + x4.toNat * 1) 1 = some [Value.slice x41a x41n x41c]) (h16 : aindexAddr cfg.P 23 (Value.slice x41a x41n x41c) (Value.int .i64 x25) = some (Value.pointer (some ⟨x43p, x43o, some x43l⟩))) (h17 : getCells H x43p x43l x43o 1 = some [Value.bool x44]) (h18 : aindexAddr cfg.P 23 (Value.slice x5a x5n x5c) (Value.int .i64 (x21.tdiv x29)) = some (Value.pointer (some ⟨x46p, x46o, some x46l⟩))) (h19 : [Value.bool x44].length = 1) (h20 : setCells H (List.length H0) x46p x46l x46o [Value.bool x44] = some H2) (h21 : Fit .i64 (x21 + 1)) : lpOf cfg a45 1 prot H0 ([.pointer (some ⟨x1p, x1o, some x1l⟩), .pointer (some ⟨x2p, x2o, some x2l⟩), .pointer (some ⟨x3p, x3o, some x3l⟩), .int .i64 x4, .slice x5a x5n x5c, .int .i64 x11, .slice x19a x19n x19c, .int .i64 x20, .int .i64 x21], H) = some (Sum.inl ([Value.pointer (some ⟨x1p, x1o, some x1l⟩), Value.pointer (some ⟨x2p, x2o, some x2l⟩), Value.pointer (some ⟨x3p, x3o, some x3l⟩), Value.int .i64 x4, Value.slice x5a x5n x5c, Value.int .i64 x11, Value.slice x19a x19n x19c, Value.int .i64 x20, Value.int .i64 (x21 + 1)], H2)) :=
  lp_of2 [.e, .b true, .v (.pointer (some ⟨x24p, x24o, some x24l⟩)), .v (.int .i64 x25), .v (.int .i64 x29), .e, .v (.int .i64 x34), .e, .v (.pointer (some ⟨x36p, x36o, some x36l⟩)), .v (.bool x37), .b false, .b false, .e, .b false, .v (.slice x41a x41n x41c), .b false, .b false, .v (.pointer (some ⟨x43p, x43o, some x43l⟩)), .b false, .v (.bool x44), .b false, .v (.pointer (some ⟨x46p, x46o, some x46l⟩)), .h H2, .e] (ai (decide_eq_true h1) (ai h2 (ai h3 (ai h4 (ai h5 (ai h6 (ai h7 (ai h8 (ai h9 (ai h10 (ai h11 (ai h12 (ai h12 (ai h13 (ai h14 (ai h12 (ai h15 (ai h12 (ai h12 (ai h16 (ai h12 (ai h17 (ai h12 (ai h18 (ai h19 (ai h20 (ai h21 (Eq.refl (Sum.inl ([Value.pointer (some ⟨x1p, x1o, some x1l⟩), Value.pointer (some ⟨x2p, x2o, some x2l⟩), Value.pointer (some ⟨x3p, x3o, some x3l⟩), Value.int .i64 x4, Value.slice x5a x5n x5c, Value.int .i64 x11, Value.slice x19a x19n x19c, Value.int .i64 x20, Value.int .i64 (x21 + 1)], H2) : LS ⊕ LO))))))))))))))))))))))))))))) (by kernel_rfl)
theorem f45_L1_2 {x1p x1o x1l x2p x2o x2l x3p x3o x3l : Nat} {x4 : Int} {x5a : Option Addr} {x5n x5c : Nat} {x11 : Int} {x19a : Option Addr} {x19n x19c : Nat} {x20 x21 : Int} {H0 : AHeap} {prot : Nat} {H : AHeap} (h1 : ¬(x21 < x20)) : lpOf cfg a45 1 prot H0 ([.pointer (some ⟨x1p, x1o, some x1l⟩), .pointer (some ⟨x2p, x2o, some x2l⟩), .pointer (some ⟨x3p, x3o, some x3l⟩), .int .i64 x4, .slice x5a x5n x5c, .int .i64 x11, .slice x19a x19n x19c, .int .i64 x20, .int .i64 x21], H) = some (Sum.inr (Ex.exit 2, [Value.pointer (some ⟨x1p, x1o, some x1l⟩), Value.pointer (some ⟨x2p, x2o, some x2l⟩), Value.pointer (some ⟨x3p, x3o, some x3l⟩), Value.int .i64 x4, Value.slice x5a x5n x5c, Value.int .i64 x11], H)) :=
  lp_of2 [.e, .b false] (ai (decide_eq_false h1) (Eq.refl (Sum.inr (Ex.exit 2, [Value.pointer (some ⟨x1p, x1o, some x1l⟩), Value.pointer (some ⟨x2p, x2o, some x2l⟩), Value.pointer (some ⟨x3p, x3o, some x3l⟩), Value.int .i64 x4, Value.slice x5a x5n x5c, Value.int .i64 x11], H) : LS ⊕ LO))) (by kernel_rfl)
end Go.Proofs.Ythjkodbinkiifaa.Am23
set_option linter.unusedVariables false
open Go Go.Proofs.Ythjkodbinkiifaa.Am
namespace Go.Proofs.Ythjkodbinkiifaa.Am23
theorem f46_F_0 {x0 x1 : Int} {x2p x2o x2l : Nat} {H : AHeap} {prot : Nat} {x8a : Option Addr} {x8n x8c x10p x10o x10l : Nat} {x11 : Bool} (h1 : 0 ≤ x1) (h2 : x1 < (↑4097 : Int)) (h3 : getCells H x2p x2l (x2o + x1.toNat * 1) 1 = some [Value.slice x8a x8n x8c]) (h4 : aindexAddr cfg.P 23 (Value.slice x8a x8n x8c) (Value.int .i64 x0) = some (Value.pointer (some ⟨x10p, x10o, some x10l⟩))) (h5 : getCells H x10p x10l x10o 1 = some [Value.bool x11]) : callInf cfg 46 [.int .i64 x0, .int .i64 x1, .pointer (some ⟨x2p, x2o, some x2l⟩)] prot H = some (Value.bool x11, H) :=
  fn_of2 a46 [.e, .v (.slice x8a x8n x8c), .v (.pointer (some ⟨x10p, x10o, some x10l⟩)), .v (.bool x11)] (ai h1 (ai h2 (ai h3 (ai h4 (ai h5 (Eq.refl ((Value.bool x11, H) : Value × AHeap))))))) (by kernel_rfl) rfl
end Go.Proofs.Ythjkodbinkiifaa.Am23
namespace Go.Proofs.Ythjkodbinkiifaa.Am23
open Go Go.Proofs.Ythjkodbinkiifaa.Am

theorem z72 : tzero cfg.P 72 = some (.agg ((List.replicate 4097 (.slice none 0 0)).toArray)) := by kernel_rfl
def accB (bs : List Bool) : Nat → Bool := fun t => bs.getD t false
/-- From which states is there a word of m letters to an accepted one? -/
def canL (k : Nat) (xs : List Int) (bs : List Bool) (m : Nat) : List Bool := (List.range bs.length).map (canB k (tgt k xs) (accB bs) m)
theorem canL_len (k : Nat) (xs : List Int) (bs : List Bool) (m : Nat) : (canL k xs bs m).length = bs.length := by simp [canL]
theorem canL_get {k : Nat} {xs : List Int} {bs : List Bool} {m s : Nat} (hs : s < bs.length) : (canL k xs bs m).getD s false = canB k (tgt k xs) (accB bs) m s := by
  unfold canL
  rw [List.getD_eq_getElem?_getD, List.getElem?_map, List.getElem?_range hs]; rfl
theorem canL_zero (k : Nat) (xs : List Int) (bs : List Bool) : canL k xs bs 0 = bs := by
  apply List.ext_getElem
  · exact canL_len k xs bs 0
  · intro i h1 h2
    have := canL_get (k := k) (xs := xs) (bs := bs) (m := 0) (s := i) h2
    rw [List.getD_eq_getElem?_getD, List.getElem?_eq_getElem h1] at this
    simp only [Option.getD_some] at this
    rw [this, canB, accB, List.getD_eq_getElem?_getD, List.getElem?_eq_getElem h2]; rfl

def anyF (g : Nat → Bool) : Nat → Nat → Bool
  | 0, _ => false
  | d + 1, c => g c || anyF g d (c + 1)
theorem anyF_range (g : Nat → Bool) : ∀ d c, (List.range' c d).any g = anyF g d c
  | 0, c => rfl
  | d + 1, c => by rw [List.range'_succ, List.any_cons, anyF_range g d (c + 1)]; rfl
theorem canB_any (k : Nat) (stp : Nat → Nat → Nat) (acc : Nat → Bool) (m s : Nat) : canB k stp acc (m + 1) s = anyF (fun c => canB k stp acc m (stp s c)) k 0 := by
  rw [canB, List.range_eq_range', anyF_range]
theorem anyF_congr {f g : Nat → Bool} : ∀ d c, (∀ i, c ≤ i → i < c + d → f i = g i) → anyF f d c = anyF g d c
  | 0, _, _ => rfl
  | d + 1, c, h => by rw [anyF, anyF, h c (by omega) (by omega), anyF_congr d (c + 1) (fun i h1 h2 => h i (by omega) (by omega))]
def orP (k : Nat) (xs : List Int) (C : List Bool) : Nat → Nat → List Bool → List Bool
  | 0, _, D => D
  | d + 1, i, D => orP k xs C d (i + 1) (D.set (i / k) (D.getD (i / k) false || C.getD (xs.getD i 0).toNat false))
theorem orP_len (k : Nat) (xs : List Int) (C : List Bool) : ∀ d i D, (orP k xs C d i D).length = D.length
  | 0, _, _ => rfl
  | d + 1, i, D => by simp only [orP, orP_len k xs C d, List.length_set]
theorem orP_get {k : Nat} {xs : List Int} {bs : List Bool} (hG : Good k xs bs) {C : List Bool} {s : Nat} (hs : s < bs.length) : ∀ (d i : Nat) (D : List Bool), i + d = xs.length → D.length = bs.length →
    (orP k xs C d i D).getD s false = (D.getD s false || anyF (fun c => C.getD (tgt k xs s c) false) (k - min k (i - s * k)) (min k (i - s * k)))
  | 0, i, D, hi, hD => by
    have hxl := hG.nx
    have : (s + 1) * k ≤ bs.length * k := Nat.mul_le_mul (by omega) (Nat.le_refl k)
    rw [Nat.add_mul, Nat.one_mul] at this
    simp only [orP]
    rw [Nat.min_eq_left (by omega), Nat.sub_self]
    simp [anyF]
  | d + 1, i, D, hi, hD => by
    have hk := hG.k1
    have hxl := hG.nx
    have hsi : i / k < bs.length := Nat.div_lt_of_lt_mul (by rw [Nat.mul_comm]; omega)
    have ih := orP_get hG (C := C) hs d (i + 1) (D.set (i / k) (D.getD (i / k) false || C.getD (xs.getD i 0).toNat false)) (by omega) (by simp [hD])
    simp only [orP]
    rw [ih]
    have hdm := Nat.div_add_mod i k
    have hml := Nat.mod_lt i (show 0 < k by omega)
    by_cases he : s = i / k
    · subst he
      have e0 : i / k * k + i % k = i := by rw [Nat.mul_comm]; omega
      have e1 : min k (i + 1 - i / k * k) = i % k + 1 := by omega
      have e2 : min k (i - i / k * k) = i % k := by omega
      have e3 : tgt k xs (i / k) (i % k) = (xs.getD i 0).toNat := by unfold tgt; rw [e0]
      have e4 : k - i % k = (k - (i % k + 1)) + 1 := by omega
      have e5 : (D.set (i / k) (D.getD (i / k) false || C.getD (xs.getD i 0).toNat false)).getD (i / k) false = (D.getD (i / k) false || C.getD (xs.getD i 0).toNat false) := by
        rw [List.getD_eq_getElem?_getD, List.getElem?_set_self (by omega)]; rfl
      rw [e5, e1, e2, e4, anyF, e3, Bool.or_assoc]
    · have e5 : (D.set (i / k) (D.getD (i / k) false || C.getD (xs.getD i 0).toNat false)).getD s false = D.getD s false := by
        rw [List.getD_eq_getElem?_getD, List.getElem?_set_ne (fun e => he e.symm), ← List.getD_eq_getElem?_getD]
      have : min k (i + 1 - s * k) = min k (i - s * k) := by
        rcases Nat.lt_or_ge s (i / k) with h | h
        · have : (s + 1) * k ≤ i / k * k := Nat.mul_le_mul h (Nat.le_refl k)
          rw [Nat.add_mul, Nat.one_mul] at this
          rw [Nat.mul_comm (i / k) k] at this
          omega
        · have : (i / k + 1) * k ≤ s * k := Nat.mul_le_mul (by omega) (Nat.le_refl k)
          rw [Nat.add_mul, Nat.one_mul, Nat.mul_comm (i / k) k] at this
          omega
      rw [e5, this]
theorem canL_succ {k : Nat} {xs : List Int} {bs : List Bool} (hG : Good k xs bs) (m : Nat) : orP k xs (canL k xs bs m) xs.length 0 (List.replicate bs.length false) = canL k xs bs (m + 1) := by
  apply List.ext_getElem
  · rw [orP_len, canL_len, List.length_replicate]
  · intro i h1 h2
    have hi : i < bs.length := by rw [canL_len] at h2; exact h2
    have e1 := orP_get hG (C := canL k xs bs m) hi xs.length 0 (List.replicate bs.length false) (by omega) (by simp)
    have e2 := canL_get (k := k) (xs := xs) (bs := bs) (m := m + 1) (s := i) hi
    rw [List.getD_eq_getElem?_getD, List.getElem?_eq_getElem h1] at e1
    rw [List.getD_eq_getElem?_getD, List.getElem?_eq_getElem h2] at e2
    simp only [Option.getD_some] at e1 e2
    rw [e1, e2, canB_any]
    have : (List.replicate bs.length false).getD i false = false := by simp [List.getD_eq_getElem?_getD, hi]
    rw [this, Bool.false_or, Nat.zero_sub, Nat.min_zero, Nat.sub_zero]
    exact anyF_congr _ _ fun c _ hc => canL_get (tgt_lt hG hi (by omega)).2.1

theorem loop45i {k : Nat} {xs : List Int} {bs : List Bool} (hG : Good k xs bs) {H0 : AHeap} {prot p2 p3 o m : Nat} {vN vA x5 v : Value} {L : List Value} {C : List Bool} (hm : m < 4097) (hC : C.length = bs.length) (ho : H0.length < o) (ho3 : p3 < o)
    (hlN : Low H0.length vN) (hlv : Low o v) (hL : L.length = 4097) (hLm : L[m]? = some v) : ∀ (d i : Nat) (D : List Bool) (H : AHeap), i + d = xs.length → D.length = bs.length →
    H[H0.length]? = some (bx k vN vA) → Rd H 3 1 vN xs.length (il xs) → H[p3]? = some (.cells L 72 4097 .var) → Rd H 4 1 v bs.length (bll C) → Own H 4 1 x5 (some o) bs.length (bll D) →
    ∃ H', lpInf (lpOf cfg a45 1 prot H0) ([.pointer (some ⟨H0.length, 0, some 3⟩), .pointer (some ⟨p2, 0, some 4097⟩), .pointer (some ⟨p3, 0, some 4097⟩), .int .i64 m, x5, .int .i64 m, vN, .int .i64 xs.length, .int .i64 i], H) =
      some (.exit 2, [.pointer (some ⟨H0.length, 0, some 3⟩), .pointer (some ⟨p2, 0, some 4097⟩), .pointer (some ⟨p3, 0, some 4097⟩), .int .i64 m, x5, .int .i64 m], H') ∧ Own H' 4 1 x5 (some o) bs.length (bll (orP k xs C d i D)) ∧ Stay (some o) H H' ∧ H'.length = H.length
  | 0, i, D, H, hi, hD, hb, hN, h3, hv, w5 => by
    obtain ⟨_, _, rfl⟩ := w5.len
    obtain ⟨_, _, rfl⟩ := hN.len
    exact ⟨H, lp_last (f45_L1_2 (by omega)), w5, Stay.refl _ _, rfl⟩
  | d + 1, i, D, H, hi, hD, hb, hN, h3, hv, w5 => by
    have hk := hG.k1
    have hn5 := hG.n5
    have hk8 := hG.k8
    have hxl := hG.nx
    have hb8 : bs.length * k ≤ 512 * 8 := Nat.mul_le_mul hn5 hk8
    have hil : i < xs.length := by omega
    obtain ⟨t, ht, htl⟩ := hG.r i xs[i] (List.getElem?_eq_getElem hil)
    have hs : i / k < bs.length := Nat.div_lt_of_lt_mul (by rw [Nat.mul_comm]; omega)
    obtain ⟨g0, _, _, _⟩ := fld3 hb
    obtain ⟨idN, LN, n1, n2⟩ := rd_at T22 hN (il_get hil)
    rw [ht] at n2
    have etd : (i : Int).tdiv (k : Int) = ((i / k : Nat) : Int) := by rw [Int.ofNat_tdiv]
    have hDs : (bll D)[i / k]? = some (.bool (D.getD (i / k) false)) := bl_at (show i / k < D.length by omega)
    have hCt : (bll C)[t]? = some (.bool (C.getD t false)) := bl_at (show t < C.length by omega)
    obtain ⟨_, e1, p1, q1⟩ := own_at T23 w5 hDs
    cases e1
    obtain ⟨idv, Lv, v1, v2⟩ := rd_at T23 hv hCt
    obtain ⟨_, H2, e3, s1, s2, s3, s4, s5⟩ := own_setS T23 w5 (i := i / k) (j := 0) hs (vs := [.bool (D.getD (i / k) false || C.getD t false)]) (by simp) rfl (prot := H0.length) (fun id hh => by cases hh; omega)
    cases e3
    rw [show bll D = D.map Value.bool from rfl, put_map Value.bool D (by omega)] at s3
    have hpass : orP k xs C (d + 1) i D = orP k xs C d (i + 1) (D.set (i / k) (D.getD (i / k) false || C.getD t false)) := by
      simp only [orP]
      have : xs.getD i 0 = t := by rw [List.getD_eq_getElem?_getD, List.getElem?_eq_getElem hil, ht]; rfl
      rw [this, Int.toNat_natCast]
    have lb := (List.getElem?_eq_some_iff.1 hb).1
    have l3 := (List.getElem?_eq_some_iff.1 h3).1
    obtain ⟨H', u1, u2, u3, u4⟩ := loop45i hG (prot := prot) (p2 := p2) hm hC ho ho3 hlN hlv hL hLm d (i + 1) _ H2 (by omega) (by simp; omega) (by rw [s4.2 _ lb (fun hh => by cases hh; omega)]; exact hb) (hN.stayLow hlN s4 (fun id hh => by cases hh; omega))
      (by rw [s4.2 _ l3 (fun hh => by cases hh; omega)]; exact h3) (hv.stayLow hlv s4 (fun id hh => by cases hh; omega)) s3
    refine ⟨H', ?_, by rw [hpass]; exact u2, s4.trans u3, by omega⟩
    have hkz : (k : Int) ≠ 0 := by omega
    have hfit : Fit .i64 ((i : Int).tdiv (k : Int)) := by rw [etd]; exact fit64 (Int.le_trans (by decide) (Int.natCast_nonneg (i / k))) (Int.le_trans (Int.ofNat_le.2 (Nat.le_of_lt hs)) (by omega))
    have hfi : Fit .i64 ((i : Int) + 1) := fit64 (by omega) (by omega)
    rw [← etd] at p1 s1
    obtain ⟨a5, c5, rfl⟩ := w5.len
    obtain ⟨aN, cN, rfl⟩ := hN.len
    obtain ⟨av, cv, rfl⟩ := hv.len
    by_cases hw : D.getD (i / k) false = true
    · rw [hw] at q1
      rw [hw, Bool.true_or] at s2
      exact lp_next (f45_L1_0 (by omega) n1 n2 g0 hkz hfit g0 hkz hfit p1 q1 rfl s1 rfl s2 hfi) u1
    · have hw : D.getD (i / k) false = false := by simpa using hw
      rw [hw] at q1
      rw [hw, Bool.false_or] at s2
      exact lp_next (f45_L1_1 (by omega) n1 n2 g0 hkz hfit g0 hkz hfit p1 q1 rfl (by omega) (by omega) (arr_get h3 hL hLm) v1 v2 s1 rfl s2 hfi) u1

/-- A row that lies in neither array. -/
def RowB (b : Nat) (H : AHeap) (n : Nat) (v : Value) (C : List Bool) : Prop := Rd H 4 1 v n (bll C) ∧ ∀ id off L n' c, v = .slice (some ⟨id, off, some L⟩) n' c → id ≠ b + 1 ∧ id ≠ b + 2
theorem loop45o {k : Nat} {xs : List Int} {bs : List Bool} (hG : Good k xs bs) {H0 : AHeap} {prot : Nat} {vN vA : Value} {L2 : List Value} (hlN : Low H0.length vN) (hL2 : L2.length = 4097) : ∀ (d m : Nat) (L : List Value) (H : AHeap), m + d = 4096 → H0.length + 3 ≤ H.length →
    H[H0.length]? = some (bx k vN vA) → Rd H 3 1 vN xs.length (il xs) → Rd H 4 1 vA bs.length (bll bs) → H[H0.length + 1]? = some (.cells L2 72 4097 .var) → H[H0.length + 2]? = some (.cells L 72 4097 .var) → L.length = 4097 → L.all isCell = true → Low H0.length vA →
    (∀ j, j ≤ m → ∃ v, L[j]? = some v ∧ RowB H0.length H bs.length v (canL k xs bs j)) →
    ∃ L' H', lpInf (lpOf cfg a45 0 prot H0) ([.pointer (some ⟨H0.length, 0, some 3⟩), .pointer (some ⟨H0.length + 1, 0, some 4097⟩), .pointer (some ⟨H0.length + 2, 0, some 4097⟩), .int .i64 m], H) =
      some (.exit 0, [.pointer (some ⟨H0.length + 1, 0, some 4097⟩), .pointer (some ⟨H0.length + 2, 0, some 4097⟩)], H') ∧ H'[H0.length + 1]? = some (.cells L2 72 4097 .var) ∧ H'[H0.length + 2]? = some (.cells L' 72 4097 .var) ∧ L'.length = 4097 ∧ L'.all isCell = true ∧
      (∀ j, j ≤ 4096 → ∃ v, L'[j]? = some v ∧ RowB H0.length H' bs.length v (canL k xs bs j)) ∧ (∀ q, q < H0.length → H'[q]? = H[q]?) ∧ H.length ≤ H'.length
  | 0, m, L, H, hm, hH, hb, hN, hA, h2, h3, hL, hLc, hlA, hr => by
    exact ⟨L, H, lp_last (f45_L0_1 (by omega)), h2, h3, hL, hLc, fun j hj => hr j (by omega), fun _ _ => rfl, Nat.le_refl _⟩
  | d + 1, m, L, H, hm, hH, hb, hN, hA, h2, h3, hL, hLc, hlA, hr => by
    have hn1 := hG.n1
    have hn5 := hG.n5
    obtain ⟨v, hv, hvr, hvn⟩ := hr m (Nat.le_refl _)
    obtain ⟨HA, hHA⟩ : ∃ HA, HA = H ++ [AObj.cells (repCells [.bool false] bs.length) 4 (repCells [.bool false] bs.length).length .row] := ⟨_, rfl⟩
    have lA : HA.length = H.length + 1 := by rw [hHA]; simp
    have sA : Stay none H HA := by rw [hHA]; exact Stay.app none H _
    have m2 : Own HA 4 1 (.slice (some ⟨H.length, 0, some (bs.length * 1)⟩) bs.length bs.length) (some H.length) bs.length (bll (List.replicate bs.length false)) := by
      rw [hHA]
      have := own_make (e := 4) (fun _ => Value.bool false) hn1 H (.bool false) rfl
      have h2 : bll (List.replicate bs.length false) = (List.replicate bs.length 0).map (fun _ => Value.bool false) := by
        unfold bll
        rw [List.map_replicate, List.map_replicate]
      rw [h2]
      exact this
    have st : ∀ q o, H[q]? = some o → HA[q]? = some o := fun q o hq => by rw [sA.2 q (List.getElem?_eq_some_iff.1 hq).1 (by simp)]; exact hq
    obtain ⟨H2, u1, u2, u3, u4⟩ := loop45i hG (prot := prot) (p2 := H0.length + 1) (vA := vA) (show m < 4097 by omega) (canL_len k xs bs m) (show H0.length < H.length by omega) (show H0.length + 2 < H.length by omega) hlN hvr.low hL hv xs.length 0 (List.replicate bs.length false) HA (by omega) (by simp)
      (st _ _ hb) (hN.stay sA) (st _ _ h3) (hvr.stay sA) m2
    rw [canL_succ hG] at u2
    have st2 : ∀ q o, q < H.length → H[q]? = some o → H2[q]? = some o := fun q o hl hq => by rw [u3.2 q (by omega) (fun e => by cases e; omega)]; exact st q o hq
    have h3' := st2 _ _ (by omega) h3
    obtain ⟨H3, hH3⟩ : ∃ H3, H3 = H2.set (H0.length + 2) (.cells (L.set (m + 1) (.slice (some ⟨H.length, 0, some (bs.length * 1)⟩) bs.length bs.length)) 72 4097 .var) := ⟨_, rfl⟩
    have s3 : Stay (some (H0.length + 2)) H2 H3 := by rw [hH3]; exact set_stay
    have hset : setCells H2 H0.length (H0.length + 2) 4097 (0 + (m + 1) * 1) [.slice (some ⟨H.length, 0, some (bs.length * 1)⟩) bs.length bs.length] = some H3 := by rw [hH3]; exact arr_set h3' hL (by omega) (by omega) rfl
    have l3 : H3.length = H2.length := by rw [hH3]; simp
    have rowst : ∀ w C, RowB H0.length H bs.length w C → RowB H0.length H3 bs.length w C := fun w C ⟨hw, hn⟩ => by
      refine ⟨(((hw.stay sA).stayLow hw.low u3 (fun id hh => by cases hh; exact Nat.le_refl _))).stayNe s3 (fun id off L n c e h => ?_), hn⟩
      have := (hn id off L n c e).2
      cases h
      exact this rfl
    have hNf : ∀ (x : Value) (e n : Nat) (cs : List Value), Low H0.length x → Rd H e 1 x n cs → Rd H3 e 1 x n cs := fun x e n cs hl hx =>
      ((hx.stay sA).stayLow hl u3 (fun id hh => by cases hh; omega)).stayLow hl s3 (fun id hh => by cases hh; omega)
    have hidx : ∀ q o, q < H.length → q ≠ H0.length + 2 → H[q]? = some o → H3[q]? = some o := fun q o hl hne hq => by
      rw [s3.2 q (by omega) (fun e => by cases e; exact hne rfl)]; exact st2 q o hl hq
    have hLget : H3[H0.length + 2]? = some (.cells (L.set (m + 1) (.slice (some ⟨H.length, 0, some (bs.length * 1)⟩) bs.length bs.length)) 72 4097 .var) := by rw [hH3, List.getElem?_set_self (by omega)]
    obtain ⟨L', H', z1, z2, z3, z4, z5, z6, z7, z8⟩ := loop45o hG (prot := prot) hlN hL2 d (m + 1) (L.set (m + 1) (.slice (some ⟨H.length, 0, some (bs.length * 1)⟩) bs.length bs.length)) H3 (by omega) (by omega)
      (hidx _ _ (by omega) (by omega) hb) (hNf _ _ _ _ hlN hN) (hNf _ _ _ _ hlA hA) (hidx _ _ (by omega) (by omega) h2) hLget (by simp [hL]) (by
        rw [List.all_eq_true] at hLc ⊢
        intro x hx
        rcases List.mem_or_eq_of_mem_set hx with h | h
        · exact hLc x h
        · rw [h]; rfl) hlA (fun j hj => by
        by_cases he : j = m + 1
        · subst he
          refine ⟨_, List.getElem?_set_self (by omega), (u2.stay s3 (fun id h1 h2 => by have := Option.some.inj h1; have := Option.some.inj h2; omega)).rd, fun id off L n' c e => ?_⟩
          cases e
          omega
        · obtain ⟨w, hw, hwr⟩ := hr j (by omega)
          exact ⟨w, by rw [List.getElem?_set_ne (fun e => he e.symm)]; exact hw, rowst _ _ hwr⟩)
    refine ⟨L', H', ?_, z2, z3, z4, z5, z6, fun q hq => ?_, by omega⟩
    · have hb2 := (fld3 hb).2.2.1
      obtain ⟨aA, cA, rfl⟩ := hA.len
      obtain ⟨aN, cN, rfl⟩ := hN.len
      have hN2 := (fld3 (st _ _ hb)).2.1
      subst hHA
      exact lp_next (f45_L0_0 (by omega) hb2 (by omega) rfl (by omega) (by omega) hN2 u1 (fit64 (by omega) (by omega)) (by omega) (by omega) rfl hset (fit64 (by omega) (by omega))) z1
    · rw [z7 q hq, s3.2 q (by omega) (fun e => by cases e; omega), u3.2 q (by omega) (fun e => by cases e; omega), sA.2 q (by omega) (by simp)]

theorem c45 {k : Nat} {xs : List Int} {bs : List Bool} {vN vA : Value} (hG : Good k xs bs) (prot : Nat) (H : AHeap) (hA : IsA H xs bs vN vA) :
    ∃ (L : List Value) (H' : AHeap), callInf cfg 45 [av k vN vA] prot H = some (.agg L.toArray, H') ∧ L.length = 4097 ∧ L.all isCell = true ∧ (∀ m, m ≤ 4096 → ∃ v, L[m]? = some v ∧ Rd H' 4 1 v bs.length (bll (canL k xs bs m))) ∧ Stay none H H' := by
  have lN := hA.n.low
  have lA := hA.a.low
  obtain ⟨aN, cN, rfl⟩ := hA.n.len
  obtain ⟨aA, cA, rfl⟩ := hA.a.len
  have hn1 := hG.n1
  obtain ⟨HX, hHX⟩ : ∃ HX, HX = H ++ [bx k (.slice aN xs.length cN) (.slice aA bs.length cA)] := ⟨_, rfl⟩
  have lX : HX.length = H.length + 1 := by rw [hHX]; simp
  have sX : Stay none H HX := by rw [hHX]; exact Stay.app none H _
  obtain ⟨HB, hHB⟩ : ∃ HB, HB = HX ++ [AObj.cells (List.replicate 4097 (.slice none 0 0)) 72 4097 .var] := ⟨_, rfl⟩
  obtain ⟨HC, hHC⟩ : ∃ HC, HC = HB ++ [AObj.cells (List.replicate 4097 (.slice none 0 0)) 72 4097 .var] := ⟨_, rfl⟩
  have lB : HB.length = H.length + 2 := by rw [hHB, List.length_append, List.length_singleton]; omega
  have lC : HC.length = H.length + 3 := by rw [hHC, List.length_append, List.length_singleton]; omega
  have sB : Stay none HX HB := by rw [hHB]; exact Stay.app none HX _
  have sC : Stay none HB HC := by rw [hHC]; exact Stay.app none HB _
  have a1 : aalloc cfg.P 72 HX = some (.pointer (some ⟨H.length + 1, 0, some 4097⟩), HB) := by rw [hHB, ← lX]; exact alloc_arr z72 rfl HX
  have a2 : aalloc cfg.P 72 HB = some (.pointer (some ⟨H.length + 2, 0, some 4097⟩), HC) := by rw [hHC, ← lB]; exact alloc_arr z72 rfl HB
  have gX : HC[H.length]? = some (bx k (.slice aN xs.length cN) (.slice aA bs.length cA)) := by
    rw [sC.2 _ (by omega) (by simp), sB.2 _ (by omega) (by simp), hHX]; exact append_get.1
  have gB : HC[H.length + 1]? = some (.cells (List.replicate 4097 (.slice none 0 0)) 72 4097 .var) := by
    rw [sC.2 _ (by omega) (by simp), hHB, ← lX]; exact append_get.1
  have gC : HC[H.length + 2]? = some (.cells (List.replicate 4097 (.slice none 0 0)) 72 4097 .var) := by rw [hHC, ← lB]; exact append_get.1
  obtain ⟨HD, hHD⟩ : ∃ HD, HD = HC.set (H.length + 2) (.cells ((List.replicate 4097 (Value.slice none 0 0)).set 0 (.slice aA bs.length cA)) 72 4097 .var) := ⟨_, rfl⟩
  have sD : Stay (some (H.length + 2)) HC HD := by rw [hHD]; exact set_stay
  have lD : HD.length = H.length + 3 := by rw [hHD, List.length_set, lC]
  have hset : setCells HC H.length (H.length + 2) 4097 (0 + 0 * 1) [.slice aA bs.length cA] = some HD := by rw [hHD]; exact arr_set gC List.length_replicate (by omega) (by omega) rfl
  have sAll := (sX.trans sB).trans sC
  have fr : ∀ (x : Value) (e n : Nat) (cs : List Value), Low H.length x → Rd H e 1 x n cs → Rd HD e 1 x n cs := fun x e n cs hl hx => (hx.stay sAll).stayLow hl sD (fun id hh => by cases hh; omega)
  have hrows : ∀ j, j ≤ 0 → ∃ v, ((List.replicate 4097 (Value.slice none 0 0)).set 0 (.slice aA bs.length cA))[j]? = some v ∧ RowB H.length HD bs.length v (canL k xs bs j) := fun j hj => by
    obtain rfl : j = 0 := by omega
    refine ⟨_, List.getElem?_set_self (by rw [List.length_replicate]; omega), by rw [canL_zero]; exact fr _ _ _ _ lA hA.a, fun id off L n' c e => ?_⟩
    have := lA id off L n' c e
    omega
  obtain ⟨L', H4, z1, z2, z3, z4, z5, z6, z7, z8⟩ := loop45o hG (prot := prot) (vA := .slice aA bs.length cA) lN List.length_replicate 4096 0 _ HD (by omega) (by omega)
    (by rw [sD.2 _ (by omega) (fun e => by have := Option.some.inj e; omega)]; exact gX) (fr _ _ _ _ lN hA.n) (fr _ _ _ _ lA hA.a) (by rw [sD.2 _ (by omega) (fun e => by have := Option.some.inj e; omega)]; exact gB) (by rw [hHD, List.getElem?_set_self (by omega)]) (by rw [List.length_set, List.length_replicate]) (by
      rw [List.all_eq_true]
      intro x hx
      rcases List.mem_or_eq_of_mem_set hx with h | h
      · rw [List.mem_replicate] at h; rw [h.2]; rfl
      · rw [h]; rfl) lA hrows
  obtain ⟨H5, hH5⟩ : ∃ H5, H5 = H4.set (H.length + 1) (.cells L' 72 4097 .var) := ⟨_, rfl⟩
  have s5 : Stay (some (H.length + 1)) H4 H5 := by rw [hH5]; exact set_stay
  have hput : setCells H4 H.length (H.length + 1) 4097 0 L' = some H5 := by rw [hH5]; exact arr_put z2 List.length_replicate (by omega) z4 z5
  have g5 : H5[H.length + 1]? = some (.cells L' 72 4097 .var) := by rw [hH5, List.getElem?_set_self (List.getElem?_eq_some_iff.1 z2).1]
  have hlen5 : H5.length = H4.length := by rw [hH5]; simp
  refine ⟨L', H5, ?_, z4, z5, fun m hm => ?_, ⟨by omega, fun q hq _ => ?_⟩⟩
  · have hne : plain1 (.agg L'.toArray) = false := by
      obtain ⟨v, hv, hvr, _⟩ := z6 0 (by omega)
      have hv0 : plain0 v = false := by
        rcases hvr.2 with ⟨h, _⟩ | ⟨id, L, wr, md, c, all, h, _⟩
        · omega
        · rw [h]; rfl
      have : L'.all plain0 = false := by
        rw [List.all_eq_false]
        exact ⟨v, List.mem_of_getElem? hv, by rw [hv0]; simp⟩
      simpa [plain1] using this
    have gX2 := (fld3 gX).2.2.1
    subst hHX
    exact f45_F_0 (x53 := L'.toArray) (w := L'.toArray) _ _ all3 a1 a2 gX2 (by omega) (by omega) rfl hset z1 (arr_all z3 z4) (by simpa using z4) hput (arr_all g5 z4) (pfin_agg rfl hne)
  · obtain ⟨v, hv, hvr, hvn⟩ := z6 m hm
    refine ⟨v, hv, hvr.stayNe s5 (fun id off L n c e h => ?_)⟩
    have := (hvn id off L n c e).1
    cases h
    exact this rfl
  · rw [s5.2 q (by omega) (fun e => by have := Option.some.inj e; omega), z7 q hq, sD.2 q (by omega) (fun e => by have := Option.some.inj e; omega), sAll.2 q hq (by simp)]

/-- What the closure answers. -/
theorem c46 {k : Nat} {xs : List Int} {bs : List Bool} {p s m : Nat} {L : List Value} {H : AHeap} {md : OMode} (prot : Nat) (hp : H[p]? = some (.cells L 72 4097 md)) (hL : L.length = 4097) (hr : ∃ v, L[m]? = some v ∧ Rd H 4 1 v bs.length (bll (canL k xs bs m))) (hs : s < bs.length) (hm : m ≤ 4096) :
    callInf cfg 46 [.int .i64 s, .int .i64 m, .pointer (some ⟨p, 0, some 4097⟩)] prot H = some (.bool (canB k (tgt k xs) (accB bs) m s), H) := by
  obtain ⟨v, hv, hvr⟩ := hr
  have h1 : (bll (canL k xs bs m))[s]? = some (.bool ((canL k xs bs m).getD s false)) := bl_at (show s < (canL k xs bs m).length by rw [canL_len]; exact hs)
  rw [canL_get hs] at h1
  obtain ⟨id, L', a1, a2⟩ := rd_at T23 hvr h1
  obtain ⟨av, cv, rfl⟩ := hvr.len
  exact f46_F_0 (by omega) (by omega) (arr_get hp hL hv) a1 a2
end Go.Proofs.Ythjkodbinkiifaa.Am23
set_option linter.unusedVariables false
open Go Go.Proofs.Ythjkodbinkiifaa.Am
namespace Go.Proofs.Ythjkodbinkiifaa.Am23
theorem f44_F_0 {x0 : Int} {x1 : ByteArray} {H : AHeap} {prot : Nat} (h1 : x0 < 1) : callInf cfg 44 [.int .i64 x0, .string x1] prot H = some (Value.int .i64 20, H) :=
  fn_of2 a44 [.e, .b true, .b true, .b true, .b true] (ai (decide_eq_true h1) (ai (decide_eq_true h1) (ai (decide_eq_true h1) (ai (Eq.refl true) (Eq.refl ((Value.int .i64 20, H) : Value × AHeap)))))) (by kernel_rfl) rfl
theorem f44_F_1 {x0 : Int} {x1 : ByteArray} {H : AHeap} {prot : Nat} (h1 : ¬(x0 < 1)) (h2 : x0 > 8) : callInf cfg 44 [.int .i64 x0, .string x1] prot H = some (Value.int .i64 20, H) :=
  fn_of2 a44 [.e, .b false, .b false, .e, .b false, .b true] (ai (decide_eq_false h1) (ai (decide_eq_false h1) (ai (decide_eq_false h1) (ai (decide_eq_true h2) (Eq.refl ((Value.int .i64 20, H) : Value × AHeap)))))) (by kernel_rfl) rfl
theorem f44_F_2 {x0 : Int} {x1 : ByteArray} {H : AHeap} {prot : Nat} {z4 : Value} {H1 : AHeap} (h1 : ¬(x0 < 1)) (h2 : ¬(x0 > 8)) (h3 : lpInf (lpOf cfg a44 0 prot H) ([Value.int .i64 x0, Value.pointer (some ⟨List.length H, 0, some 0⟩)], H ++ [AObj.iter x1 0]) = some (Ex.exit 0, [z4], H1)) : callInf cfg 44 [.int .i64 x0, .string x1] prot H = some (Value.int .i64 0, H) :=
  fn_of2 a44 [.e, .b false, .b false, .e, .b false, .b false, .e, .lo (.exit 0, [z4], H1)] (ai (decide_eq_false h1) (ai (decide_eq_false h1) (ai (decide_eq_false h1) (ai (decide_eq_false h2) (ai h3 (Eq.refl ((Value.int .i64 0, H) : Value × AHeap))))))) (by kernel_rfl) rfl
theorem f44_F_3 {x0 : Int} {x1 : ByteArray} {H : AHeap} {prot : Nat} {z4 : Int} {H1 : AHeap} (h1 : ¬(x0 < 1)) (h2 : ¬(x0 > 8)) (h3 : lpInf (lpOf cfg a44 0 prot H) ([Value.int .i64 x0, Value.pointer (some ⟨List.length H, 0, some 0⟩)], H ++ [AObj.iter x1 0]) = some (Ex.ret, [Value.int .i64 z4], H1)) : callInf cfg 44 [.int .i64 x0, .string x1] prot H = some (Value.int .i64 z4, H) :=
  fn_of2 a44 [.e, .b false, .b false, .e, .b false, .b false, .e, .lo (.ret, [.int .i64 z4], H1)] (ai (decide_eq_false h1) (ai (decide_eq_false h1) (ai (decide_eq_false h1) (ai (decide_eq_false h2) (ai h3 (Eq.refl ((Value.int .i64 z4, H) : Value × AHeap))))))) (by kernel_rfl) rfl
theorem f44_L0_0 {x0 : Int} {x14p : Nat} {H0 : AHeap} {prot : Nat} {H : AHeap} {x15i x15r : Int} {H2 : AHeap} (h1 : anext (List.length H0) (Value.pointer (some ⟨x14p, 0, some 0⟩)) H = some (Value.tuple { toList := [Value.bool true, Value.int .i64 x15i, Value.int .i32 x15r] }, H2)) (h2 : x15r < 97) : lpOf cfg a44 0 prot H0 ([.int .i64 x0, .pointer (some ⟨x14p, 0, some 0⟩)], H) = some (Sum.inr (Ex.ret, [Value.int .i64 21], H2)) :=
  lp_of2 [.r (.tuple #[.bool true, .int .i64 x15i, .int .i32 x15r]) H2, .b true, .e, .b true, .b true, .b true, .b true, .b true, .b true, .b true] (ai h1 (ai (Eq.refl true) (ai (decide_eq_true h2) (ai (decide_eq_true h2) (ai (decide_eq_true h2) (ai (decide_eq_true h2) (ai (decide_eq_true h2) (ai (decide_eq_true h2) (ai (Eq.refl true) (Eq.refl (Sum.inr (Ex.ret, [Value.int .i64 21], H2) : LS ⊕ LO))))))))))) (by kernel_rfl)
theorem f44_L0_1 {x0 : Int} {x14p : Nat} {H0 : AHeap} {prot : Nat} {H : AHeap} {x15i x15r : Int} {H2 : AHeap} (h1 : anext (List.length H0) (Value.pointer (some ⟨x14p, 0, some 0⟩)) H = some (Value.tuple { toList := [Value.bool true, Value.int .i64 x15i, Value.int .i32 x15r] }, H2)) (h2 : ¬(x15r < 97)) (h3 : Fit .i32 x0) (h4 : Fit .i32 (97 + x0)) (h5 : x15r ≥ 97 + x0) : lpOf cfg a44 0 prot H0 ([.int .i64 x0, .pointer (some ⟨x14p, 0, some 0⟩)], H) = some (Sum.inr (Ex.ret, [Value.int .i64 21], H2)) :=
  lp_of2 [.r (.tuple #[.bool true, .int .i64 x15i, .int .i32 x15r]) H2, .b true, .e, .b false, .b false, .b false, .e, .b false, .e, .b false, .e, .b false, .b true] (ai h1 (ai (Eq.refl true) (ai (decide_eq_false h2) (ai (decide_eq_false h2) (ai (decide_eq_false h2) (ai h3 (ai (decide_eq_false h2) (ai h4 (ai (decide_eq_false h2) (ai (decide_eq_false h2) (ai (decide_eq_true h5) (Eq.refl (Sum.inr (Ex.ret, [Value.int .i64 21], H2) : LS ⊕ LO))))))))))))) (by kernel_rfl)
theorem f44_L0_2 {x0 : Int} {x14p : Nat} {H0 : AHeap} {prot : Nat} {H : AHeap} {x15i x15r : Int} {H2 : AHeap} (h1 : anext (List.length H0) (Value.pointer (some ⟨x14p, 0, some 0⟩)) H = some (Value.tuple { toList := [Value.bool true, Value.int .i64 x15i, Value.int .i32 x15r] }, H2)) (h2 : ¬(x15r < 97)) (h3 : Fit .i32 x0) (h4 : Fit .i32 (97 + x0)) (h5 : ¬(x15r ≥ 97 + x0)) : lpOf cfg a44 0 prot H0 ([.int .i64 x0, .pointer (some ⟨x14p, 0, some 0⟩)], H) = some (Sum.inl ([Value.int .i64 x0, Value.pointer (some ⟨x14p, 0, some 0⟩)], H2)) :=
  lp_of2 [.r (.tuple #[.bool true, .int .i64 x15i, .int .i32 x15r]) H2, .b true, .e, .b false, .b false, .b false, .e, .b false, .e, .b false, .e, .b false, .b false] (ai h1 (ai (Eq.refl true) (ai (decide_eq_false h2) (ai (decide_eq_false h2) (ai (decide_eq_false h2) (ai h3 (ai (decide_eq_false h2) (ai h4 (ai (decide_eq_false h2) (ai (decide_eq_false h2) (ai (decide_eq_false h5) (Eq.refl (Sum.inl ([Value.int .i64 x0, Value.pointer (some ⟨x14p, 0, some 0⟩)], H2) : LS ⊕ LO))))))))))))) (by kernel_rfl)
theorem f44_L0_3 {x0 : Int} {x14p : Nat} {H0 : AHeap} {prot : Nat} {H H2 : AHeap} (h1 : anext (List.length H0) (Value.pointer (some ⟨x14p, 0, some 0⟩)) H = some (Value.tuple { toList := [Value.bool false] }, H2)) : lpOf cfg a44 0 prot H0 ([.int .i64 x0, .pointer (some ⟨x14p, 0, some 0⟩)], H) = some (Sum.inr (Ex.exit 0, [Value.tuple { toList := [] }], H2)) :=
  lp_of2 [.r (.tuple #[.bool false]) H2, .b false] (ai h1 (ai (Eq.refl false) (Eq.refl (Sum.inr (Ex.exit 0, [Value.tuple { toList := [] }], H2) : LS ⊕ LO)))) (by kernel_rfl)
end Go.Proofs.Ythjkodbinkiifaa.Am23
namespace Go.Proofs.Ythjkodbinkiifaa.Am23
open Go Go.Proofs.Ythjkodbinkiifaa.Am

theorem dec_low (s : ByteArray) (i : Nat) (h : (s.get! i).toNat < 128) : Utf8.decode s i = ((s.get! i).toNat, 1) := by
  simp only [Utf8.decode, Nat.add_zero]
  rw [if_pos h]
theorem dec_high (s : ByteArray) (i : Nat) (h : ¬ (s.get! i).toNat < 128) : 128 ≤ (Utf8.decode s i).1 ∧ (Utf8.decode s i).1 ≤ 1114111 ∧ 1 ≤ (Utf8.decode s i).2 := by
  have hb : ∀ k, (s.get! (i + k)).toNat < 256 := fun k => (s.get! (i + k)).toNat_lt
  have h0 := hb 0; have h1 := hb 1; have h2 := hb 2; have h3 := hb 3
  simp only [Utf8.decode, Nat.add_zero, if_neg h]
  repeat' split
  all_goals simp_all [Utf8.runeError, Utf8.valid]
  all_goals omega

/-- Are all letters from i on (d of them) among the first k? -/
def okFrom (k : Nat) (w : ByteArray) : Nat → Nat → Bool
  | 0, _ => true
  | d + 1, i => decide (97 ≤ (w.get! i).toNat ∧ (w.get! i).toNat < 97 + k) && okFrom k w d (i + 1)
def okW (k : Nat) (w : ByteArray) : Bool := okFrom k w w.size 0

theorem okFrom_iff (k : Nat) (w : ByteArray) : ∀ d i, okFrom k w d i = true ↔ ∀ j, i ≤ j → j < i + d → 97 ≤ (w.get! j).toNat ∧ (w.get! j).toNat < 97 + k
  | 0, i => by simp [okFrom]; intro j h1 h2; omega
  | d + 1, i => by
    simp only [okFrom, Bool.and_eq_true, decide_eq_true_eq, okFrom_iff k w d (i + 1)]
    constructor
    · rintro ⟨h1, h2⟩ j hj1 hj2
      by_cases e : j = i
      · subst e; exact h1
      · exact h2 j (by omega) (by omega)
    · intro h
      exact ⟨h i (by omega) (by omega), fun j h1 h2 => h j (by omega) (by omega)⟩
theorem loop44 {k : Nat} (hk1 : 1 ≤ k) (hk : k ≤ 8) (w : ByteArray) (H0 : AHeap) (prot : Nat) (p : Nat) (hp : H0.length ≤ p) : ∀ (d i : Nat) (H : AHeap), i + d = w.size → H[p]? = some (.iter w i) →
    ∃ H' v, lpInf (lpOf cfg a44 0 prot H0) ([.int .i64 k, .pointer (some ⟨p, 0, some 0⟩)], H) = some (if okFrom k w d i then (.exit 0, [v], H') else (.ret, [.int .i64 21], H'))
  | 0, i, H, hi, hH => by
    refine ⟨H, .tuple #[], lp_last (f44_L0_3 ?_)⟩
    unfold anext
    simp only
    rw [hH]
    simp only
    rw [if_pos hp, if_neg (by omega)]
  | d + 1, i, H, hi, hH => by
    have hn : anext H0.length (.pointer (some ⟨p, 0, some 0⟩)) H = some (.tuple #[.bool true, .int .i64 i, .int .i32 (Utf8.decode w i).1], H.set p (.iter w (i + (Utf8.decode w i).2))) := by
      unfold anext
      simp only
      rw [hH]
      simp only
      rw [if_pos hp, if_pos (by omega)]
    have f1 : Fit .i32 (k : Int) := fit32 (by omega) (by omega)
    have f2 : Fit .i32 (97 + (k : Int)) := fit32 (by omega) (by omega)
    by_cases h1 : (w.get! i).toNat < 97
    · refine ⟨H.set p (.iter w (i + (Utf8.decode w i).2)), .tuple #[], ?_⟩
      have hf : okFrom k w (d + 1) i = false := by simp [okFrom]; omega
      rw [hf, if_neg (by simp)]
      refine lp_last (f44_L0_0 hn ?_)
      rw [dec_low w i (by omega)]
      show ((w.get! i).toNat : Int) < 97
      omega
    · by_cases h2 : (w.get! i).toNat < 97 + k
      · have hd := dec_low w i (by omega)
        rw [hd] at hn
        have step := f44_L0_2 (prot := prot) hn (by omega) f1 f2 (by omega)
        obtain ⟨H', v, ih⟩ := loop44 hk1 hk w H0 prot p hp d (i + 1) _ (by omega) (List.getElem?_set_self (List.getElem?_eq_some_iff.1 hH).1)
        refine ⟨H', v, lp_next step ?_⟩
        have hf : okFrom k w (d + 1) i = okFrom k w d (i + 1) := by
          have : decide (97 ≤ (w.get! i).toNat ∧ (w.get! i).toNat < 97 + k) = true := by simp; omega
          simp only [okFrom, this, Bool.true_and]
        rw [hf]
        exact ih
      · have hbig : (Utf8.decode w i).1 ≥ 97 + k := by
          by_cases h3 : (w.get! i).toNat < 128
          · rw [dec_low w i h3]; show (w.get! i).toNat ≥ 97 + k; omega
          · have := dec_high w i h3; omega
        refine ⟨H.set p (.iter w (i + (Utf8.decode w i).2)), .tuple #[], ?_⟩
        have hf : okFrom k w (d + 1) i = false := by simp [okFrom]; omega
        rw [hf, if_neg (by simp)]
        exact lp_last (f44_L0_1 hn (by omega) f1 f2 (by omega))

/-- What Check answers. -/
def chkW (k : Int) (w : ByteArray) : Int := if k < 1 ∨ k > 8 then 20 else if okW k.toNat w then 0 else 21

theorem c44 (k : Int) (w : ByteArray) (prot : Nat) (H : AHeap) : callInf cfg 44 [.int .i64 k, .string w] prot H = some (.int .i64 (chkW k w), H) := by
  unfold chkW
  by_cases h1 : k < 1
  · rw [if_pos (.inl h1)]; exact f44_F_0 h1
  · by_cases h2 : k > 8
    · rw [if_pos (.inr h2)]; exact f44_F_1 h1 h2
    · rw [if_neg (by omega)]
      obtain ⟨n, rfl⟩ : ∃ n : Nat, k = n := ⟨k.toNat, by omega⟩
      obtain ⟨H', v, h⟩ := loop44 (k := n) (by omega) (by omega) w H prot H.length (Nat.le_refl _) w.size 0 (H ++ [.iter w 0]) (by omega) append_get.1
      rw [Int.toNat_natCast]
      unfold okW
      cases hok : okFrom n w w.size 0 with
      | true =>
        rw [hok] at h
        exact f44_F_2 h1 h2 h
      | false =>
        rw [hok] at h
        exact f44_F_3 h1 h2 h

end Go.Proofs.Ythjkodbinkiifaa.Am23
namespace Go.Proofs.Ythjkodbinkiifaa.Am
open Go
theorem u8_small {m : Nat} (h : m < 256) : IntKind.u8.wrap (m : Int) = (m : Int) := by
  simp only [IntKind.wrap]
  show (if (false && decide ((m : Int) % (256 : Int) ≥ (128 : Int))) = true then (m : Int) % (256 : Int) - 256 else (m : Int) % (256 : Int)) = _
  rw [if_neg (by simp)]
  omega
end Go.Proofs.Ythjkodbinkiifaa.Am
set_option linter.unusedVariables false
open Go Go.Proofs.Ythjkodbinkiifaa.Am
namespace Go.Proofs.Ythjkodbinkiifaa.Am23
theorem f27_F_0 {x0a : Int} {x0ba : Option Addr} {x0bn x0bc : Nat} {x0ca : Option Addr} {x0cn x0cc : Nat} {x1 : ByteArray} {H : AHeap} {prot : Nat} {x9a : Int} {x9ba : Option Addr} {x9bn x9bc : Nat} {x9ca : Option Addr} {x9cn x9cc : Nat} {x11a x11b : Int} {x18a : Option Addr} {x18n x18c x20p x20o x20l : Nat} {x21 : Bool} (h1 : [Value.int .i64 x0a, Value.slice x0ba x0bn x0bc, Value.slice x0ca x0cn x0cc].all isCell = true) (h2 : getCells (H ++ [vo [Value.int .i64 x0a, Value.slice x0ba x0bn x0bc, Value.slice x0ca x0cn x0cc] 25]) (List.length H) [Value.int .i64 x0a, Value.slice x0ba x0bn x0bc, Value.slice x0ca x0cn x0cc].length 0 3 = some [Value.int .i64 x9a, Value.slice x9ba x9bn x9bc, Value.slice x9ca x9cn x9cc]) (h3 : callInf cfg 51 [Value.agg { toList := [Value.int .i64 x9a, Value.slice x9ba x9bn x9bc, Value.slice x9ca x9cn x9cc] }, Value.int .i64 0, Value.string x1] (List.length H) (H ++ [vo [Value.int .i64 x0a, Value.slice x0ba x0bn x0bc, Value.slice x0ca x0cn x0cc] 25]) = some (Value.tuple { toList := [Value.int .i64 x11a, Value.int .i64 x11b] }, H ++ [vo [Value.int .i64 x0a, Value.slice x0ba x0bn x0bc, Value.slice x0ca x0cn x0cc] 25])) (h4 : (x11b == 0) = true) (h5 : getCells (H ++ [vo [Value.int .i64 x0a, Value.slice x0ba x0bn x0bc, Value.slice x0ca x0cn x0cc] 25]) (List.length H) [Value.int .i64 x0a, Value.slice x0ba x0bn x0bc, Value.slice x0ca x0cn x0cc].length (0 + 2) 1 = some [Value.slice x18a x18n x18c]) (h6 : aindexAddr cfg.P 23 (Value.slice x18a x18n x18c) (Value.int .i64 x11a) = some (Value.pointer (some ⟨x20p, x20o, some x20l⟩))) (h7 : getCells (H ++ [vo [Value.int .i64 x0a, Value.slice x0ba x0bn x0bc, Value.slice x0ca x0cn x0cc] 25]) x20p x20l x20o 1 = some [Value.bool x21]) : callInf cfg 27 [.agg #[.int .i64 x0a, .slice x0ba x0bn x0bc, .slice x0ca x0cn x0cc], .string x1] prot H = some (Value.tuple { toList := [Value.bool x21, Value.int .i64 x11b] }, H) :=
  fn_of2 a27 [.e, .v (.agg #[.int .i64 x9a, .slice x9ba x9bn x9bc, .slice x9ca x9cn x9cc]), .v (.tuple #[.int .i64 x11a, .int .i64 x11b]), .e, .b true, .b true, .v (.slice x18a x18n x18c), .b true, .b true, .v (.pointer (some ⟨x20p, x20o, some x20l⟩)), .b true, .v (.bool x21), .b true] (ai h1 (ai h2 (ai h3 (ai h4 (ai h4 (ai h5 (ai h4 (ai h4 (ai h6 (ai h4 (ai h7 (ai h4 (Eq.refl ((Value.tuple { toList := [Value.bool x21, Value.int .i64 x11b] }, H) : Value × AHeap)))))))))))))) (by kernel_rfl) rfl
end Go.Proofs.Ythjkodbinkiifaa.Am23
set_option linter.unusedVariables false
open Go Go.Proofs.Ythjkodbinkiifaa.Am
namespace Go.Proofs.Ythjkodbinkiifaa.Am23
theorem f51_F_4 {x0a : Int} {x0ba : Option Addr} {x0bn x0bc : Nat} {x0ca : Option Addr} {x0cn x0cc : Nat} {x1 : Int} {x2 : ByteArray} {H : AHeap} {prot : Nat} {x10a : Int} {x10ba : Option Addr} {x10bn x10bc : Nat} {x10ca : Option Addr} {x10cn x10cc : Nat} {x11 : Int} {x20a : Option Addr} {x20n x20c : Nat} {x24a : Int} {x24ba : Option Addr} {x24bn x24bc : Nat} {x24ca : Option Addr} {x24cn x24cc : Nat} {x26 x30a : Int} {x30ba : Option Addr} {x30bn x30bc : Nat} {x30ca : Option Addr} {x30cn x30cc : Nat} {x33 : Int} (h1 : [Value.int .i64 x0a, Value.slice x0ba x0bn x0bc, Value.slice x0ca x0cn x0cc].all isCell = true) (h2 : getCells (H ++ [vo [Value.int .i64 x0a, Value.slice x0ba x0bn x0bc, Value.slice x0ca x0cn x0cc] 25]) (List.length H) [Value.int .i64 x0a, Value.slice x0ba x0bn x0bc, Value.slice x0ca x0cn x0cc].length 0 3 = some [Value.int .i64 x10a, Value.slice x10ba x10bn x10bc, Value.slice x10ca x10cn x10cc]) (h3 : callInf cfg 64 [Value.agg { toList := [Value.int .i64 x10a, Value.slice x10ba x10bn x10bc, Value.slice x10ca x10cn x10cc] }] (List.length H) (H ++ [vo [Value.int .i64 x0a, Value.slice x0ba x0bn x0bc, Value.slice x0ca x0cn x0cc] 25]) = some (Value.int .i64 x11, H ++ [vo [Value.int .i64 x0a, Value.slice x0ba x0bn x0bc, Value.slice x0ca x0cn x0cc] 25])) (h4 : (x11 != 0) = false) (h5 : ¬(x1 < 0)) (h6 : getCells (H ++ [vo [Value.int .i64 x0a, Value.slice x0ba x0bn x0bc, Value.slice x0ca x0cn x0cc] 25]) (List.length H) [Value.int .i64 x0a, Value.slice x0ba x0bn x0bc, Value.slice x0ca x0cn x0cc].length (0 + 2) 1 = some [Value.slice x20a x20n x20c]) (h7 : ¬(x1 ≥ (↑x20n : Int))) (h8 : getCells (H ++ [vo [Value.int .i64 x0a, Value.slice x0ba x0bn x0bc, Value.slice x0ca x0cn x0cc] 25]) (List.length H) [Value.int .i64 x0a, Value.slice x0ba x0bn x0bc, Value.slice x0ca x0cn x0cc].length 0 3 = some [Value.int .i64 x24a, Value.slice x24ba x24bn x24bc, Value.slice x24ca x24cn x24cc]) (h9 : callInf cfg 68 [Value.agg { toList := [Value.int .i64 x24a, Value.slice x24ba x24bn x24bc, Value.slice x24ca x24cn x24cc] }, Value.string x2] (List.length H) (H ++ [vo [Value.int .i64 x0a, Value.slice x0ba x0bn x0bc, Value.slice x0ca x0cn x0cc] 25]) = some (Value.int .i64 x26, H ++ [vo [Value.int .i64 x0a, Value.slice x0ba x0bn x0bc, Value.slice x0ca x0cn x0cc] 25])) (h10 : (x26 != 0) = false) (h11 : getCells (H ++ [vo [Value.int .i64 x0a, Value.slice x0ba x0bn x0bc, Value.slice x0ca x0cn x0cc] 25]) (List.length H) [Value.int .i64 x0a, Value.slice x0ba x0bn x0bc, Value.slice x0ca x0cn x0cc].length 0 3 = some [Value.int .i64 x30a, Value.slice x30ba x30bn x30bc, Value.slice x30ca x30cn x30cc]) (h12 : callInf cfg 69 [Value.agg { toList := [Value.int .i64 x30a, Value.slice x30ba x30bn x30bc, Value.slice x30ca x30cn x30cc] }, Value.int .i64 x1, Value.string x2] (List.length H) (H ++ [vo [Value.int .i64 x0a, Value.slice x0ba x0bn x0bc, Value.slice x0ca x0cn x0cc] 25]) = some (Value.int .i64 x33, H ++ [vo [Value.int .i64 x0a, Value.slice x0ba x0bn x0bc, Value.slice x0ca x0cn x0cc] 25])) : callInf cfg 51 [.agg #[.int .i64 x0a, .slice x0ba x0bn x0bc, .slice x0ca x0cn x0cc], .int .i64 x1, .string x2] prot H = some (Value.tuple { toList := [Value.int .i64 x33, Value.int .i64 0] }, H) :=
  fn_of2 a51 [.e, .v (.agg #[.int .i64 x10a, .slice x10ba x10bn x10bc, .slice x10ca x10cn x10cc]), .v (.int .i64 x11), .e, .b false, .e, .b false, .b false, .b false, .v (.slice x20a x20n x20c), .b false, .e, .b false, .e, .b false, .b false, .v (.agg #[.int .i64 x24a, .slice x24ba x24bn x24bc, .slice x24ca x24cn x24cc]), .v (.int .i64 x26), .e, .b false, .v (.agg #[.int .i64 x30a, .slice x30ba x30bn x30bc, .slice x30ca x30cn x30cc]), .v (.int .i64 x33)] (ai h1 (ai h2 (ai h3 (ai h4 (ai (decide_eq_false h5) (ai (decide_eq_false h5) (ai (decide_eq_false h5) (ai h6 (ai (decide_eq_false h5) (ai (decide_eq_false h5) (ai (decide_eq_false h5) (ai (decide_eq_false h7) (ai h8 (ai h9 (ai h10 (ai h11 (ai h12 (Eq.refl ((Value.tuple { toList := [Value.int .i64 x33, Value.int .i64 0] }, H) : Value × AHeap))))))))))))))))))) (by kernel_rfl) rfl
end Go.Proofs.Ythjkodbinkiifaa.Am23
set_option linter.unusedVariables false
open Go Go.Proofs.Ythjkodbinkiifaa.Am
namespace Go.Proofs.Ythjkodbinkiifaa.Am23
theorem f68_F_0 {x0a : Int} {x0ba : Option Addr} {x0bn x0bc : Nat} {x0ca : Option Addr} {x0cn x0cc : Nat} {x1 : ByteArray} {H : AHeap} {prot : Nat} {x6 x8 : Int} (h1 : [Value.int .i64 x0a, Value.slice x0ba x0bn x0bc, Value.slice x0ca x0cn x0cc].all isCell = true) (h2 : getCells (H ++ [vo [Value.int .i64 x0a, Value.slice x0ba x0bn x0bc, Value.slice x0ca x0cn x0cc] 25]) (List.length H) [Value.int .i64 x0a, Value.slice x0ba x0bn x0bc, Value.slice x0ca x0cn x0cc].length (0 + 0) 1 = some [Value.int .i64 x6]) (h3 : callInf cfg 44 [Value.int .i64 x6, Value.string x1] (List.length H) (H ++ [vo [Value.int .i64 x0a, Value.slice x0ba x0bn x0bc, Value.slice x0ca x0cn x0cc] 25]) = some (Value.int .i64 x8, H ++ [vo [Value.int .i64 x0a, Value.slice x0ba x0bn x0bc, Value.slice x0ca x0cn x0cc] 25])) : callInf cfg 68 [.agg #[.int .i64 x0a, .slice x0ba x0bn x0bc, .slice x0ca x0cn x0cc], .string x1] prot H = some (Value.int .i64 x8, H) :=
  fn_of2 a68 [.e, .v (.int .i64 x6), .v (.int .i64 x8)] (ai h1 (ai h2 (ai h3 (Eq.refl ((Value.int .i64 x8, H) : Value × AHeap))))) (by kernel_rfl) rfl
end Go.Proofs.Ythjkodbinkiifaa.Am23
set_option linter.unusedVariables false
open Go Go.Proofs.Ythjkodbinkiifaa.Am
namespace Go.Proofs.Ythjkodbinkiifaa.Am23
theorem f69_F_0 {x0a : Int} {x0ba : Option Addr} {x0bn x0bc : Nat} {x0ca : Option Addr} {x0cn x0cc : Nat} {x1 : Int} {x2 : ByteArray} {H : AHeap} {prot : Nat} {z1 : Int} {H1 : AHeap} (h1 : [Value.int .i64 x0a, Value.slice x0ba x0bn x0bc, Value.slice x0ca x0cn x0cc].all isCell = true) (h2 : lpInf (lpOf cfg a69 0 prot H) ([Value.int .i64 x1, Value.string x2, Value.pointer (some ⟨List.length H, 0, some [Value.int .i64 x0a, Value.slice x0ba x0bn x0bc, Value.slice x0ca x0cn x0cc].length⟩), Value.int .i64 (↑x2.size : Int), Value.int .i64 0], H ++ [vo [Value.int .i64 x0a, Value.slice x0ba x0bn x0bc, Value.slice x0ca x0cn x0cc] 25]) = some (Ex.exit 0, [Value.int .i64 z1], H1)) : callInf cfg 69 [.agg #[.int .i64 x0a, .slice x0ba x0bn x0bc, .slice x0ca x0cn x0cc], .int .i64 x1, .string x2] prot H = some (Value.int .i64 z1, H) :=
  fn_of2 a69 [.e, .e, .lo (.exit 0, [.int .i64 z1], H1)] (ai h1 (ai h2 (Eq.refl ((Value.int .i64 z1, H) : Value × AHeap)))) (by kernel_rfl) rfl
theorem f69_L0_0 {x1 : Int} {x2 : ByteArray} {x3p x3o x3l : Nat} {x9 x10 : Int} {H0 : AHeap} {prot : Nat} {H : AHeap} {x14a : Option Addr} {x14n x14c : Nat} {x17 : Int} {x25p x25o x25l : Nat} {x26 : Int} (h1 : x10 < x9) (h2 : getCells H x3p x3l (x3o + 1) 1 = some [Value.slice x14a x14n x14c]) (h3 : getCells H x3p x3l (x3o + 0) 1 = some [Value.int .i64 x17]) (h4 : Fit .i64 (x1 * x17)) (h5 : 0 ≤ x10) (h6 : x10 < (↑x2.size : Int)) (h7 : Fit .i64 (IntKind.u8.wrap ((↑(x2.get! x10.toNat).toNat : Int) - 97))) (h8 : Fit .i64 (x1 * x17 + IntKind.u8.wrap ((↑(x2.get! x10.toNat).toNat : Int) - 97))) (h9 : aindexAddr cfg.P 22 (Value.slice x14a x14n x14c) (Value.int .i64 (x1 * x17 + IntKind.u8.wrap ((↑(x2.get! x10.toNat).toNat : Int) - 97))) = some (Value.pointer (some ⟨x25p, x25o, some x25l⟩))) (h10 : getCells H x25p x25l x25o 1 = some [Value.int .i64 x26]) (h11 : Fit .i64 (x10 + 1)) : lpOf cfg a69 0 prot H0 ([.int .i64 x1, .string x2, .pointer (some ⟨x3p, x3o, some x3l⟩), .int .i64 x9, .int .i64 x10], H) = some (Sum.inl ([Value.int .i64 x26, Value.string x2, Value.pointer (some ⟨x3p, x3o, some x3l⟩), Value.int .i64 x9, Value.int .i64 (x10 + 1)], H)) :=
  lp_of2 [.e, .b true, .v (.slice x14a x14n x14c), .v (.int .i64 x17), .e, .e, .e, .e, .e, .v (.pointer (some ⟨x25p, x25o, some x25l⟩)), .v (.int .i64 x26), .e] (ai (decide_eq_true h1) (ai h2 (ai h3 (ai h4 (ai h5 (ai h6 (ai h7 (ai h8 (ai h9 (ai h10 (ai h11 (Eq.refl (Sum.inl ([Value.int .i64 x26, Value.string x2, Value.pointer (some ⟨x3p, x3o, some x3l⟩), Value.int .i64 x9, Value.int .i64 (x10 + 1)], H) : LS ⊕ LO))))))))))))) (by kernel_rfl)
theorem f69_L0_1 {x1 : Int} {x2 : ByteArray} {x3p x3o x3l : Nat} {x9 x10 : Int} {H0 : AHeap} {prot : Nat} {H : AHeap} (h1 : ¬(x10 < x9)) : lpOf cfg a69 0 prot H0 ([.int .i64 x1, .string x2, .pointer (some ⟨x3p, x3o, some x3l⟩), .int .i64 x9, .int .i64 x10], H) = some (Sum.inr (Ex.exit 0, [Value.int .i64 x1], H)) :=
  lp_of2 [.e, .b false] (ai (decide_eq_false h1) (Eq.refl (Sum.inr (Ex.exit 0, [Value.int .i64 x1], H) : LS ⊕ LO))) (by kernel_rfl)
end Go.Proofs.Ythjkodbinkiifaa.Am23
namespace Go.Proofs.Ythjkodbinkiifaa.Am23
open Go Go.Proofs.Ythjkodbinkiifaa.Am

theorem lw_get {l : List Nat} {i : Nat} (hi : i < l.length) (hl : l[i] < 100) : ((lw l).get! i).toNat = 97 + l[i] := by
  show ((lw l).data[i]!).toNat = _
  unfold lw bstr
  have : ((l.map (97 + ·)).map fun n => UInt8.ofNat n).toArray[i]! = UInt8.ofNat (97 + l[i]) := by
    rw [getElem!_pos _ _ (by simpa using hi)]
    simp
  rw [this, UInt8.toNat_ofNat']
  omega
theorem okW_lw {k : Nat} (hk : k ≤ 8) {l : List Nat} (hl : Wk k l) : okW k (lw l) = true := by
  unfold okW
  rw [okFrom_iff]
  intro j _ hj
  rw [lw_size] at hj
  have hj : j < l.length := by omega
  have := hl _ (List.getElem_mem hj)
  rw [lw_get hj (by omega)]
  omega

theorem loop69 {k : Nat} {xs : List Int} {bs : List Bool} (hG : Good k xs bs) {l : List Nat} (hl : Wk k l) (hsz : l.length ≤ 140737488355328) {H0 H : AHeap} {prot : Nat} {vN vA : Value} (hbx : H[H0.length]? = some (bx k vN vA)) (hA : Rd H 3 1 vN xs.length (il xs)) (ha : ∃ p n c, vA = .slice p n c) : ∀ (d i s : Nat), i + d = l.length → s < bs.length →
    lpInf (lpOf cfg a69 0 prot H0) ([.int .i64 s, .string (lw l), .pointer (some ⟨H0.length, 0, some 3⟩), .int .i64 l.length, .int .i64 i], H) = some (.exit 0, [.int .i64 (go k xs s (l.drop i) : Nat)], H)
  | 0, i, s, hi, hs => by
    rw [List.drop_of_length_le (by omega)]
    exact lp_last (f69_L0_1 (by omega))
  | d + 1, i, s, hi, hs => by
    have hil : i < l.length := by omega
    have hck : l[i] < k := hl _ (List.getElem_mem hil)
    have hn5 := hG.n5
    have hk8 := hG.k8
    have hxl := hG.nx
    have hb8 : bs.length * k ≤ 512 * 8 := Nat.mul_le_mul hn5 hk8
    obtain ⟨h1, h2, h3⟩ := tgt_lt hG hs hck
    have ih := loop69 hG hl hsz (prot := prot) hbx hA ha d (i + 1) (tgt k xs s l[i]) (by omega) h2
    obtain ⟨_, _, n1, n2⟩ := rd_at T22 hA (show (il xs)[s * k + l[i]]? = some (.int .i64 ((tgt k xs s l[i] : Nat) : Int)) by unfold il; rw [List.getElem?_map, h3]; rfl)
    obtain ⟨aN, cN, rfl⟩ := hA.len
    obtain ⟨aA, nA, cA, rfl⟩ := ha
    obtain ⟨g0, g1, _, _⟩ := fld3 hbx
    have hu : IntKind.u8.wrap ((((lw l).get! ((i : Int)).toNat).toNat : Int) - 97) = (l[i] : Int) := by
      rw [Int.toNat_natCast, lw_get hil (by omega)]
      rw [show (((97 + l[i] : Nat) : Int) - 97) = ((l[i] : Nat) : Int) by omega]
      exact u8_small (by omega)
    have eix : ((s : Int) * (k : Int) + (l[i] : Int)) = ((s * k + l[i] : Nat) : Int) := by push_cast; rfl
    have f1 : Fit .i64 ((s : Int) * (k : Int)) := by rw [show ((s : Int) * (k : Int)) = ((s * k : Nat) : Int) by push_cast; rfl]; exact fit64 (by omega) (by omega)
    have f2 : Fit .i64 ((s : Int) * (k : Int) + (l[i] : Int)) := by rw [eix]; exact fit64 (by omega) (by omega)
    have f0 : Fit .i64 (l[i] : Int) := fit64 (by omega) (by omega)
    rw [← eix] at n1
    rw [← hu] at f0 f2 n1
    rw [List.drop_eq_getElem_cons hil]
    show lpInf _ _ = some (.exit 0, [.int .i64 (go k xs (tgt k xs s l[i]) (l.drop (i + 1)) : Nat)], H)
    exact lp_next (f69_L0_0 (x2 := lw l) (by omega) g1 g0 f1 (by omega) (by rw [lw_size]; omega) f0 f2 n1 n2 (fit64 (by omega) (by omega))) ih

theorem c69 {k s : Nat} {xs : List Int} {bs : List Bool} (hG : Good k xs bs) {l : List Nat} (hl : Wk k l) (hsz : l.length ≤ 140737488355328) (hs : s < bs.length) {vN vA : Value} (prot : Nat) (H : AHeap) (hA : IsA H xs bs vN vA) :
    callInf cfg 69 [av k vN vA, .int .i64 s, .string (lw l)] prot H = some (.int .i64 (go k xs s l : Nat), H) := by
  have hg : (H ++ [bx k vN vA])[H.length]? = some (bx k vN vA) := append_get.1
  have hA2 := hA.stay (Stay.app none H [bx k vN vA])
  have hlp := loop69 hG hl hsz (prot := prot) hg hA2.n (by obtain ⟨_, _, rfl⟩ := hA.a.len; exact ⟨_, _, _, rfl⟩) l.length 0 s (by omega) hs
  rw [List.drop_zero] at hlp
  obtain ⟨aN, cN, rfl⟩ := hA.n.len
  obtain ⟨aA, cA, rfl⟩ := hA.a.len
  rw [show ((l.length : Nat) : Int) = (((lw l).size : Nat) : Int) by rw [lw_size]] at hlp
  exact f69_F_0 all3 hlp

/-- What Run and Accepts answer at a good automaton and a good word. -/
theorem c51 {k s : Nat} {xs : List Int} {bs : List Bool} (hG : Good k xs bs) (h0 : chkG k xs bs = 0) {l : List Nat} (hl : Wk k l) (hsz : l.length ≤ 140737488355328) (hs : s < bs.length) {vN vA : Value} (prot : Nat) (H : AHeap) (hA : IsA H xs bs vN vA) :
    callInf cfg 51 [av k vN vA, .int .i64 s, .string (lw l)] prot H = some (.tuple #[.int .i64 (go k xs s l : Nat), .int .i64 0], H) := by
  have hk1 := hG.k1
  have hk8 := hG.k8
  have hg : (H ++ [bx k vN vA])[H.length]? = some (bx k vN vA) := append_get.1
  have hA2 := hA.stay (Stay.app none H [bx k vN vA])
  have h64 := c64 (k := k) H.length (H ++ [bx k vN vA]) hA2
  have hv : chkV k xs bs = 0 := by
    unfold chkG at h0
    unfold chkV
    split at h0
    · rename_i h; rw [if_pos h]
    · cases h0
  rw [hv] at h64
  have h69 := c69 hG hl hsz hs H.length (H ++ [bx k vN vA]) hA2
  have hg2 : (H ++ [bx k vN vA] ++ [bx k vN vA])[(H ++ [bx k vN vA]).length]? = some (bx k vN vA) := append_get.1
  have h44 := c44 (k : Int) (lw l) (H ++ [bx k vN vA]).length (H ++ [bx k vN vA] ++ [bx k vN vA])
  have hcw : chkW k (lw l) = 0 := by unfold chkW; rw [if_neg (by omega), Int.toNat_natCast, okW_lw hk8 hl]; rfl
  rw [hcw] at h44
  obtain ⟨aN, cN, rfl⟩ := hA.n.len
  obtain ⟨aA, cA, rfl⟩ := hA.a.len
  obtain ⟨g0, g1, g2, g3⟩ := fld3 hg
  obtain ⟨k0, _⟩ := fld3 hg2
  have h68 := f68_F_0 (prot := H.length) all3 k0 h44
  exact f51_F_4 all3 g3 h64 rfl (by omega) g2 (by omega) g3 h68 rfl g3 h69
theorem c27 {k : Nat} {xs : List Int} {bs : List Bool} (hG : Good k xs bs) (h0 : chkG k xs bs = 0) {l : List Nat} (hl : Wk k l) (hsz : l.length ≤ 140737488355328) {vN vA : Value} (prot : Nat) (H : AHeap) (hA : IsA H xs bs vN vA) :
    callInf cfg 27 [av k vN vA, .string (lw l)] prot H = some (.tuple #[.bool (bs.getD (go k xs 0 l) false), .int .i64 0], H) := by
  have hb1 := hG.n1
  have hg : (H ++ [bx k vN vA])[H.length]? = some (bx k vN vA) := append_get.1
  have hA2 := hA.stay (Stay.app none H [bx k vN vA])
  have h51 := c51 hG h0 hl hsz (show 0 < bs.length by omega) H.length (H ++ [bx k vN vA]) hA2
  have hlt := go_lt hG l 0 hl (by omega)
  obtain ⟨_, _, n1, n2⟩ := rd_at T23 hA2.a (bl_at hlt)
  obtain ⟨aN, cN, rfl⟩ := hA.n.len
  obtain ⟨aA, cA, rfl⟩ := hA.a.len
  obtain ⟨g0, g1, g2, g3⟩ := fld3 hg
  exact f27_F_0 all3 g3 h51 rfl g2 n1 n2
end Go.Proofs.Ythjkodbinkiifaa.Am23
namespace Go.Proofs.Ythjkodbinkiifaa.Am
open Go

/-- A list of one's own that grows and shrinks at its end: nil, or the beginning of a row. -/
def Stk (H : AHeap) (e : Nat) (x : Value) (o : Option Nat) (n : Nat) (cs : List Value) : Prop :=
  cs.length = n ∧
  match o with
  | none => n = 0 ∧ x = .slice none 0 0
  | some id => ∃ all wr, x = .slice (some ⟨id, 0, some all.length⟩) n all.length ∧ n ≤ all.length ∧ wr ≤ all.length ∧ 0 < all.length ∧ H[id]? = some (.cells all e wr .row) ∧ cs = all.take n

theorem Stk.rd {H : AHeap} {e : Nat} {x : Value} {o : Option Nat} {n : Nat} {cs : List Value} (h : Stk H e x o n cs) : Rd H e 1 x n cs := by
  obtain ⟨h1, h2⟩ := h
  refine ⟨by rw [h1, Nat.mul_one], ?_⟩
  cases o with
  | none => exact .inl ⟨h2.1, .inl h2.2⟩
  | some id =>
    obtain ⟨all, wr, rfl, hn, hwr, _, hH, rfl⟩ := h2
    exact .inr ⟨id, all.length, wr, .row, all.length, all, rfl, hwr, Nat.le_refl _, by omega, hH, by rw [Nat.mul_one]⟩
theorem Stk.len {H : AHeap} {e : Nat} {x : Value} {o : Option Nat} {n : Nat} {cs : List Value} (h : Stk H e x o n cs) : ∃ a c, x = .slice a n c := h.rd.len
theorem Stk.stay {H H' : AHeap} {e : Nat} {x : Value} {o o' : Option Nat} {n : Nat} {cs : List Value} (h : Stk H e x o n cs) (k : Stay o' H H') (hne : ∀ id, o = some id → o' ≠ some id) : Stk H' e x o n cs := by
  obtain ⟨h1, h2⟩ := h
  refine ⟨h1, ?_⟩
  cases o with
  | none => exact h2
  | some id =>
    obtain ⟨all, wr, a, b, c, d, f, g⟩ := h2
    exact ⟨all, wr, a, b, c, d, by rw [k.2 id (List.getElem?_eq_some_iff.1 f).1 (hne id rfl)]; exact f, g⟩
theorem Stk.lt {H : AHeap} {e : Nat} {x : Value} {id n : Nat} {cs : List Value} (h : Stk H e x (some id) n cs) : id < H.length := by
  obtain ⟨_, all, wr, _, _, _, _, hH, _⟩ := h
  exact (List.getElem?_eq_some_iff.1 hH).1
theorem stk_nil {H : AHeap} {e : Nat} : Stk H e (.slice none 0 0) none 0 [] := ⟨rfl, rfl, rfl⟩
theorem Own.stk {H : AHeap} {e : Nat} {x : Value} {id n : Nat} {cs : List Value} (h : Own H e 1 x (some id) n cs) : Stk H e x (some id) n cs := by
  obtain ⟨hl, hn, rfl, wr, hwr, hH⟩ := h
  have e1 : cs.length = n := by omega
  exact ⟨e1, cs, wr, by rw [e1], by omega, hwr, by omega, hH, by rw [← e1, List.take_length]⟩

/-- One element more. -/
theorem stk_push {P : Program} {t e by_ : Nat} (T : ElemT P t e 1 by_) {H : AHeap} {x : Value} {o : Option Nat} {n : Nat} {cs : List Value} (h : Stk H e x o n cs) {v : Value} (hv : isCell v = true) {prot : Nat}
    (hp : ∀ id, o = some id → prot ≤ id) (hB : prot ≤ H.length) (hroom : (n + 1) * by_ ≤ 140737488355328) {L : Nat} (hL : L = 1) {el : Nat} (hel : el = 1) :
    ∃ a' c' o' H', aappend P prot true t t x (.slice (some ⟨H.length, 0, some L⟩) 1 1) (H ++ [.cells [v] e el .row]) = some (.slice a' (n + 1) c', H') ∧ Stk H' e (.slice a' (n + 1) c') (some o') (n + 1) (cs ++ [v]) ∧ Stay o H H' ∧ prot ≤ o' ∧ (o = none → H.length ≤ o') ∧ (∀ id, o = some id → o' = id) := by
  obtain ⟨h1, h2⟩ := h
  cases o with
  | none =>
    obtain ⟨rfl, rfl⟩ := h2
    have hcs : cs = [] := List.eq_nil_of_length_eq_zero h1
    subst hcs
    obtain ⟨a', c', o', H', q1, q2, q3, q4, q5, q6⟩ := own_app T (own_nil (H := H) (e := e) (s := 1)) (ecs := [v]) rfl (by simp [hv]) (prot := prot) (room := true) (fun id h => by cases h) hB hroom hL (el := el) hel
    exact ⟨a', c', o', H', q1, q2.stk, q3, q4, q5, q6⟩
  | some id =>
    obtain ⟨all, wr, rfl, hn, hwr, h0, hH, rfl⟩ := h2
    subst hL; subst hel
    obtain ⟨z, hz, hzl⟩ := T.ze
    have hlt := (List.getElem?_eq_some_iff.1 hH).1
    have hH' : (H ++ [AObj.cells [v] e 1 .row])[id]? = some (.cells all e wr .row) := by rw [List.getElem?_append_left hlt]; exact hH
    have hsrc : srcCells P 1 t (.slice (some ⟨H.length, 0, some 1⟩) 1 1) (H ++ [AObj.cells [v] e 1 .row]) = some (1, [v]) := by
      unfold srcCells
      rw [T.un]
      simp only [cellsAt]
      unfold getCells
      rw [append_get.1]
      rfl
    have hcond : t = t ∧ 0 < 1 ∧ 0 < by_ ∧ (cellsOf z).length = 1 := ⟨rfl, by omega, T.b0, hzl⟩
    have hcond2 : ([v] : List Value).length = 1 * 1 ∧ ([v] : List Value).all isCell = true := ⟨rfl, by simp [hv]⟩
    have hpi := hp id rfl
    have hl : (all.take n).length = n := h1
    by_cases hc : n + 1 ≤ all.length
    · have hput : putList all (0 + n * 1) [v] = all.set n v := by
        unfold putList
        rw [Nat.mul_one, Nat.zero_add, List.set_eq_take_append_cons_drop, if_pos (by omega)]
        simp
      refine ⟨_, _, id, (H ++ [AObj.cells [v] e 1 .row]).set id (.cells (all.set n v) e all.length .row), ?_, ⟨by simp [hl], all.set n v, all.length, by rw [List.length_set], by rw [List.length_set]; omega, by rw [List.length_set]; exact Nat.le_refl _, by rw [List.length_set]; exact h0, List.getElem?_set_self (by simp; omega), ?_⟩, ?_, hpi, fun h => (by cases h), fun id' h => (by cases h; rfl)⟩
      · unfold aappend
        rw [T.sl, Option.bind_some, T.sz, Option.bind_some, T.bt, Option.bind_some, hz, Option.bind_some, if_pos hcond, hsrc, Option.bind_some]
        dsimp only
        rw [if_pos hcond2]
        simp only [Nat.one_ne_zero, if_false]
        rw [if_pos hc]
        unfold setCells
        rw [hH']
        simp only [Bool.true_eq_false, if_false]
        rw [if_pos ⟨rfl, hpi, trivial, by simp; omega, by simp [hv]⟩, Option.map_some, hput]
      · rw [List.take_add_one, List.getElem?_set_self (by omega), List.take_set_of_le (Nat.le_refl _)]
        rfl
      · refine ⟨by simp, fun q hq hne => ?_⟩
        rw [List.getElem?_set_ne (fun e => hne (by rw [e])), List.getElem?_append_left hq]
    · have hn2 : n = all.length := by omega
      subst hn2
      rw [List.take_length]
      have el : (all ++ [v]).length = (all.length + 1) * 1 := by simp
      refine ⟨some ⟨id, 0, some ((all.length + 1) * 1)⟩, all.length + 1, id, (H ++ [AObj.cells [v] e 1 .row]).set id (.cells (all ++ [v]) e wr .row), ?_, ⟨by simp, all ++ [v], wr, ?_, by simp, by simp; omega, by simp, List.getElem?_set_self (by simp; omega), ?_⟩, ?_, hpi, fun h => (by cases h), fun id' h => (by cases h; rfl)⟩
      · unfold aappend
        rw [T.sl, Option.bind_some, T.sz, Option.bind_some, T.bt, Option.bind_some, hz, Option.bind_some, if_pos hcond, hsrc, Option.bind_some]
        dsimp only
        rw [if_pos hcond2]
        simp only [Nat.one_ne_zero, if_false]
        rw [if_neg hc, hH']
        simp only [OMode.isRow, true_and]
        rw [if_pos (by refine ⟨hpi, by omega, ?_⟩; simpa using hroom)]
      · simp
      · rw [List.take_of_length_le (by simp)]
      · refine ⟨by simp, fun q hq hne => ?_⟩
        rw [List.getElem?_set_ne (fun e => hne (by rw [e])), List.getElem?_append_left hq]

/-- One element less. -/
theorem stk_pop {P : Program} {t e by_ : Nat} (T : ElemT P t e 1 by_) {H : AHeap} {x : Value} {o : Option Nat} {n : Nat} {cs : List Value} (h : Stk H e x o n cs) (hn : 0 < n) :
    ∃ a' c', aslice P t x none (some (.int .i64 ((n : Int) - 1))) none H = some (.slice a' (n - 1) c') ∧ Stk H e (.slice a' (n - 1) c') o (n - 1) cs.dropLast := by
  obtain ⟨h1, h2⟩ := h
  cases o with
  | none => omega
  | some id =>
    obtain ⟨all, wr, rfl, hna, hwr, h0, hH, rfl⟩ := h2
    refine ⟨some ⟨id, 0, some all.length⟩, all.length, ?_, by simp; omega, all, wr, rfl, by omega, hwr, h0, hH, ?_⟩
    · unfold aslice
      simp only
      rw [T.un]
      have e1 : ((n : Int) - 1).toNat = n - 1 := by omega
      have e2 : (0 : Int) ≤ (n : Int) - 1 := by omega
      simp only [boundOf, Option.bind_some, e2, if_true, T.sz]
      rw [e1, if_pos ⟨Nat.zero_le _, by omega⟩]
      simp
    · rw [List.dropLast_eq_take, List.take_take, List.length_take]
      congr 1
      omega
/-- The last element. -/
theorem rd_last {P : Program} {t e by_ : Nat} (T : ElemT P t e 1 by_) {H : AHeap} {x : Value} {n : Nat} {cs : List Value} (h : Rd H e 1 x (n + 1) cs) {v : Value} (hv : cs[n]? = some v) :
    ∃ id L, aindexAddr P t x (.int .i64 (((n + 1 : Nat) : Int) - 1)) = some (.pointer (some ⟨id, n, some L⟩)) ∧ getCells H id L n 1 = some [v] := by
  have : ((n + 1 : Nat) : Int) - 1 = (n : Int) := by omega
  rw [this]
  exact rd_at T h hv

/-- A list of letters as a text. -/
def lcs (w : List Nat) : List Value := w.map fun c => .int .u8 ((97 + c : Nat) : Int)
theorem bytes_lcs : ∀ w : List Nat, bytesOfCells (lcs w) = some (w.map fun c => UInt8.ofNat (97 + c))
  | [] => rfl
  | c :: w => by
    show (bytesOfCells (lcs w)).map _ = _
    rw [bytes_lcs w]
    rfl
theorem conv_word {P : Program} {tb ts te : TypeId} (u1 : P.underlying tb = some (.slice te)) (u2 : P.underlying ts = some .string) (u3 : P.underlying te = some (.int .u8)) {H : AHeap} {x : Value} {n : Nat} {w : List Nat} (h : Rd H te 1 x n (lcs w)) :
    aconv P tb ts x H = some (.string (lw w)) := by
  have key : aconv P tb ts x H = (cellsAt 1 x H).bind fun cs => (bytesOfCells cs).map fun l => .string ⟨l.toArray⟩ := by
    obtain ⟨a, c, rfl⟩ := h.len
    unfold aconv
    rw [u1, u2]
    simp only
    rw [u3]
  have hc : cellsAt 1 x H = some (lcs w) := by
    have hs := rd_src (P := P) (t := tb) (s := 1) u1 h
    unfold srcCells at hs
    rw [u1] at hs
    obtain ⟨a, c, rfl⟩ := h.len
    simp only [Option.map_eq_some_iff] at hs
    obtain ⟨cs, h1, h2⟩ := hs
    cases h2
    exact h1
  rw [key, hc, Option.bind_some, bytes_lcs]
  simp [lw, bstr]
end Go.Proofs.Ythjkodbinkiifaa.Am
