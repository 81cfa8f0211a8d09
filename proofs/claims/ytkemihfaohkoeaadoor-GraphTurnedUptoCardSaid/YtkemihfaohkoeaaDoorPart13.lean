/- A part of the proof of a given statement: S11d_K, P11d_21, P11d_10, P11d_32, S11d_I, P11d_16, S11d_Tw, AmLow, P11d_26, P11d_38, P11d_39, P11d_47, S11d_Li, P11d_48, S11d_L, S11d_Bf, P11d_6, S11d_Pa, P11d_15, S11d_W, P11d_11, Law11d_4, S11d_P, AmSets, P11d_24, S11d_Q, AmHt, P11d_25, P11d_7, S11d_Dp, S11d_Dq, S11d_M, P11d_18, S11d_H, AmKey, S11d_N, S11d_Pb, Law11d_5, P11d_4, Law11d_T. No condition. -/
import Derived.Test.YtkemihfaohkoeaaDoorPart12
namespace Go.Proofs.YtkemihfaohkoeaaDoor.Am11d
open Go Go.Proofs.YtkemihfaohkoeaaDoor.Am
theorem slot (S : Nat → Bool) (H : AHeap) {prot : Nat} (hp : prot ≤ H.length) : ∃ HA H', aalloc cfg.P 46 H = some (.pointer (some ⟨H.length, 0, some 8⟩), HA) ∧ setCells HA prot H.length 8 0 (setA S).toList = some H' ∧ H'[H.length]? = some (.cells (setL S) 46 8 .var) ∧ Stay none H H' ∧ H'.length = H.length + 1 := by
  have g : (H ++ [AObj.cells (setL noS) 46 8 .var])[H.length]? = some (.cells (setL noS) 46 8 .var) := append_get.1
  refine ⟨_, _, al39 H, arr_put g (setL_len _) hp (setL_len S) (setL_cell S), List.getElem?_set_self (by simp), ?_, by simp⟩
  exact (Stay.app none H _).over (set_stay (p := H.length)) (fun id e => by have := Option.some.inj e; omega)
theorem slot_get {H : AHeap} {p : Nat} {S : Nat → Bool} (h : H[p]? = some (.cells (setL S) 46 8 .var)) : getCells H p 8 0 8 = some (setA S).toList := arr_all h (setL_len S)

end Go.Proofs.YtkemihfaohkoeaaDoor.Am11d
set_option linter.unusedVariables false
open Go Go.Proofs.YtkemihfaohkoeaaDoor.Am
namespace Go.Proofs.YtkemihfaohkoeaaDoor.Am11d
end Go.Proofs.YtkemihfaohkoeaaDoor.Am11d
set_option linter.unusedVariables false
open Go Go.Proofs.YtkemihfaohkoeaaDoor.Am
namespace Go.Proofs.YtkemihfaohkoeaaDoor.Am11d
theorem f10_F_0 {x0a : Option Addr} {x0n x0c : Nat} {x1a : Option Addr} {x1n x1c : Nat} {H : AHeap} {prot : Nat} (h1 : ((↑x0n : Int) != (↑x1n : Int)) = true) : callInf cfg 10 [.slice x0a x0n x0c, .slice x1a x1n x1c] prot H = some (Value.bool false, H) :=
  fn_of2 a10 [.e, .e, .e, .b true] (ai h1 (Eq.refl ((Value.bool false, H) : Value × AHeap))) (by kernel_rfl) rfl
theorem f10_F_1 {x0a : Option Addr} {x0n x0c : Nat} {x1a : Option Addr} {x1n x1c : Nat} {H : AHeap} {prot : Nat} {z4 : Value} {H1 : AHeap} (h1 : ((↑x0n : Int) != (↑x1n : Int)) = false) (h2 : lpInf (lpOf cfg a10 0 prot H) ([Value.slice x0a x0n x0c, Value.slice x1a x1n x1c, Value.int .i64 0], H) = some (Ex.exit 0, [z4], H1)) : callInf cfg 10 [.slice x0a x0n x0c, .slice x1a x1n x1c] prot H = some (Value.bool true, H) :=
  fn_of2 a10 [.e, .e, .e, .b false, .lo (.exit 0, [z4], H1)] (ai h1 (ai h2 (Eq.refl ((Value.bool true, H) : Value × AHeap)))) (by kernel_rfl) rfl
theorem f10_F_2 {x0a : Option Addr} {x0n x0c : Nat} {x1a : Option Addr} {x1n x1c : Nat} {H : AHeap} {prot : Nat} {z4 : Bool} {H1 : AHeap} (h1 : ((↑x0n : Int) != (↑x1n : Int)) = false) (h2 : lpInf (lpOf cfg a10 0 prot H) ([Value.slice x0a x0n x0c, Value.slice x1a x1n x1c, Value.int .i64 0], H) = some (Ex.ret, [Value.bool z4], H1)) : callInf cfg 10 [.slice x0a x0n x0c, .slice x1a x1n x1c] prot H = some (Value.bool z4, H) :=
  fn_of2 a10 [.e, .e, .e, .b false, .lo (.ret, [.bool z4], H1)] (ai h1 (ai h2 (Eq.refl ((Value.bool z4, H) : Value × AHeap)))) (by kernel_rfl) rfl
theorem f10_L0_0 {x0a : Option Addr} {x0n x0c : Nat} {x1a : Option Addr} {x1n x1c : Nat} {x5 : Int} {H0 : AHeap} {prot : Nat} {H : AHeap} {x19p x19o x19l : Nat} {x20 : Int} {x23p x23o x23l : Nat} {x24 : Int} (h1 : x5 < (↑x0n : Int)) (h2 : aindexAddr cfg.P 24 (Value.slice x0a x0n x0c) (Value.int .i64 x5) = some (Value.pointer (some ⟨x19p, x19o, some x19l⟩))) (h3 : getCells H x19p x19l x19o 1 = some [Value.int .i64 x20]) (h4 : aindexAddr cfg.P 24 (Value.slice x1a x1n x1c) (Value.int .i64 x5) = some (Value.pointer (some ⟨x23p, x23o, some x23l⟩))) (h5 : getCells H x23p x23l x23o 1 = some [Value.int .i64 x24]) (h6 : (x20 != x24) = true) : lpOf cfg a10 0 prot H0 ([.slice x0a x0n x0c, .slice x1a x1n x1c, .int .i64 x5], H) = some (Sum.inr (Ex.ret, [Value.bool false], H)) :=
  lp_of2 [.e, .e, .b true, .v (.pointer (some ⟨x19p, x19o, some x19l⟩)), .v (.int .i64 x20), .v (.pointer (some ⟨x23p, x23o, some x23l⟩)), .v (.int .i64 x24), .e, .b true] (ai (decide_eq_true h1) (ai h2 (ai h3 (ai h4 (ai h5 (ai h6 (Eq.refl (Sum.inr (Ex.ret, [Value.bool false], H) : LS ⊕ LO)))))))) (by kernel_rfl)
theorem f10_L0_1 {x0a : Option Addr} {x0n x0c : Nat} {x1a : Option Addr} {x1n x1c : Nat} {x5 : Int} {H0 : AHeap} {prot : Nat} {H : AHeap} {x19p x19o x19l : Nat} {x20 : Int} {x23p x23o x23l : Nat} {x24 : Int} (h1 : x5 < (↑x0n : Int)) (h2 : aindexAddr cfg.P 24 (Value.slice x0a x0n x0c) (Value.int .i64 x5) = some (Value.pointer (some ⟨x19p, x19o, some x19l⟩))) (h3 : getCells H x19p x19l x19o 1 = some [Value.int .i64 x20]) (h4 : aindexAddr cfg.P 24 (Value.slice x1a x1n x1c) (Value.int .i64 x5) = some (Value.pointer (some ⟨x23p, x23o, some x23l⟩))) (h5 : getCells H x23p x23l x23o 1 = some [Value.int .i64 x24]) (h6 : (x20 != x24) = false) (h7 : Fit .i64 (x5 + 1)) : lpOf cfg a10 0 prot H0 ([.slice x0a x0n x0c, .slice x1a x1n x1c, .int .i64 x5], H) = some (Sum.inl ([Value.slice x0a x0n x0c, Value.slice x1a x1n x1c, Value.int .i64 (x5 + 1)], H)) :=
  lp_of2 [.e, .e, .b true, .v (.pointer (some ⟨x19p, x19o, some x19l⟩)), .v (.int .i64 x20), .v (.pointer (some ⟨x23p, x23o, some x23l⟩)), .v (.int .i64 x24), .e, .b false, .e] (ai (decide_eq_true h1) (ai h2 (ai h3 (ai h4 (ai h5 (ai h6 (ai h7 (Eq.refl (Sum.inl ([Value.slice x0a x0n x0c, Value.slice x1a x1n x1c, Value.int .i64 (x5 + 1)], H) : LS ⊕ LO))))))))) (by kernel_rfl)
theorem f10_L0_2 {x0a : Option Addr} {x0n x0c : Nat} {x1a : Option Addr} {x1n x1c : Nat} {x5 : Int} {H0 : AHeap} {prot : Nat} {H : AHeap} (h1 : ¬(x5 < (↑x0n : Int))) : lpOf cfg a10 0 prot H0 ([.slice x0a x0n x0c, .slice x1a x1n x1c, .int .i64 x5], H) = some (Sum.inr (Ex.exit 0, [Value.tuple { toList := [] }], H)) :=
  lp_of2 [.e, .e, .b false] (ai (decide_eq_false h1) (Eq.refl (Sum.inr (Ex.exit 0, [Value.tuple { toList := [] }], H) : LS ⊕ LO))) (by kernel_rfl)
end Go.Proofs.YtkemihfaohkoeaaDoor.Am11d
set_option linter.unusedVariables false
open Go Go.Proofs.YtkemihfaohkoeaaDoor.Am
namespace Go.Proofs.YtkemihfaohkoeaaDoor.Am11d
end Go.Proofs.YtkemihfaohkoeaaDoor.Am11d
namespace Go.Proofs.YtkemihfaohkoeaaDoor.Am11d
open Go Go.Proofs.YtkemihfaohkoeaaDoor.Am
def lentC (l : List Int) : List Value := il l ++ [.int .i64 (-77), .int .i64 (-78)]
/-- A list that was lent. -/
structure LR (H : AHeap) (r : Value) (l : List Int) (id : Nat) : Prop where
  e : r = .slice (some ⟨id, 0, some (l.length + 2)⟩) l.length (l.length + 2)
  g : ∃ wr md, wr ≤ l.length + 2 ∧ H[id]? = some (.cells (lentC l) 3 wr md)
theorem lentC_len (l) : (lentC l).length = l.length + 2 := by simp [lentC, il]
theorem LR.rd {H : AHeap} {r : Value} {l : List Int} {id : Nat} (h : LR H r l id) : Rd H 3 1 r l.length (il l) := by
  obtain ⟨wr, md, h1, h2⟩ := h.g
  refine ⟨by simp [il], .inr ⟨id, l.length + 2, wr, md, _, lentC l, h.e, h1, by rw [lentC_len]; exact Nat.le_refl _, by omega, h2, ?_⟩⟩
  unfold lentC
  rw [List.take_append_of_le_length (by simp [il]), List.take_of_length_le (by simp [il])]
theorem LR.stay {H H' : AHeap} {r : Value} {l : List Int} {id : Nat} (h : LR H r l id) {o : Option Nat} (k : Stay o H H') (ho : o ≠ some id) : LR H' r l id := by
  obtain ⟨wr, md, h1, h2⟩ := h.g
  exact ⟨h.e, wr, md, h1, by rw [k.2 id (List.getElem?_eq_some_iff.1 h2).1 ho]; exact h2⟩
/-- Are lists the same? -/
theorem loop27 {l m : List Int} (hlm : l.length = m.length) (hl : l.length ≤ 140737488355328) {x y : Value} {H0 H : AHeap} {prot : Nat} (hx : Rd H 3 1 x l.length (il l)) (hy : Rd H 3 1 y m.length (il m)) : ∀ (d i : Nat), i + d = l.length →
    lpInf (lpOf cfg a10 0 prot H0) ([x, y, .int .i64 i], H) = some (if l.drop i = m.drop i then (.exit 0, [.tuple #[]], H) else (.ret, [.bool false], H))
  | 0, i, hi => by
    rw [List.drop_of_length_le (by omega), List.drop_of_length_le (by omega), if_pos rfl]
    obtain ⟨_, _, rfl⟩ := hx.len
    obtain ⟨_, _, rfl⟩ := hy.len
    exact lp_last (f10_L0_2 (by omega))
  | d + 1, i, hi => by
    have h1 : i < l.length := by omega
    have h2 : i < m.length := by omega
    obtain ⟨i1, L1, p1, q1⟩ := rd_at T34 hx (il_get h1)
    obtain ⟨i2, L2, p2, q2⟩ := rd_at T34 hy (il_get h2)
    have ih := loop27 hlm hl hx hy (H0 := H0) (prot := prot) d (i + 1) (by omega)
    rw [List.drop_eq_getElem_cons h1, List.drop_eq_getElem_cons h2]
    obtain ⟨_, _, rfl⟩ := hx.len
    obtain ⟨_, _, rfl⟩ := hy.len
    by_cases e : l[i] = m[i]
    · rw [e] at q1
      have e2 : (if l[i] :: l.drop (i + 1) = m[i] :: m.drop (i + 1) then ((Ex.exit 0, [Value.tuple #[]], H) : Ex × List Value × AHeap) else (.ret, [.bool false], H)) = (if l.drop (i + 1) = m.drop (i + 1) then (.exit 0, [.tuple #[]], H) else (.ret, [.bool false], H)) := by
        by_cases hh : l.drop (i + 1) = m.drop (i + 1)
        · rw [if_pos hh, if_pos (by rw [e, hh])]
        · rw [if_neg hh, if_neg (fun h => hh (List.cons.inj h).2)]
      rw [e2]
      exact lp_next (f10_L0_1 (by omega) p1 q1 p2 q2 (by simp) (fit64 (by omega) (by omega))) ih
    · rw [if_neg (by intro h; exact e (List.cons.inj h).1)]
      exact lp_last (f10_L0_0 (by omega) p1 q1 p2 q2 (by simpa using e))
theorem c27 {l m : List Int} (hl : l.length ≤ 140737488355328) {x y : Value} (prot : Nat) {H : AHeap} (hx : Rd H 3 1 x l.length (il l)) (hy : Rd H 3 1 y m.length (il m)) :
    callInf cfg 10 [x, y] prot H = some (.bool (decide (l = m)), H) := by
  have h := hx.len
  have h' := hy.len
  by_cases e : l.length = m.length
  · have hlp := loop27 e hl hx hy (H0 := H) (prot := prot) l.length 0 (by omega)
    simp only [List.drop_zero] at hlp
    obtain ⟨_, _, rfl⟩ := h
    obtain ⟨_, _, rfl⟩ := h'
    by_cases e2 : l = m
    · rw [if_pos e2] at hlp
      rw [decide_eq_true e2]
      exact f10_F_1 (by simp [e]) hlp
    · rw [if_neg e2] at hlp
      rw [decide_eq_false e2]
      exact f10_F_2 (by simp [e]) hlp
  · rw [decide_eq_false (fun h => e (by rw [h]))]
    obtain ⟨_, _, rfl⟩ := h
    obtain ⟨_, _, rfl⟩ := h'
    exact f10_F_0 (by simp; omega)

end Go.Proofs.YtkemihfaohkoeaaDoor.Am11d
set_option linter.unusedVariables false
open Go Go.Proofs.YtkemihfaohkoeaaDoor.Am
namespace Go.Proofs.YtkemihfaohkoeaaDoor.Am11d
theorem f16_F_0 {x0a : Option Addr} {x0n x0c : Nat} {H : AHeap} {prot : Nat} {x6 : Int} (h1 : callInf cfg 22 [Value.slice x0a x0n x0c] (List.length H) H = some (Value.int .i64 x6, H)) (h2 : (x6 != 0) = true) : callInf cfg 16 [.slice x0a x0n x0c] prot H = some (Value.tuple { toList := [Value.slice none 0 0, Value.int .i64 x6] }, H) :=
  fn_of2 a16 [.v (.int .i64 x6), .e, .b true] (ai h1 (ai h2 (Eq.refl ((Value.tuple { toList := [Value.slice none 0 0, Value.int .i64 x6] }, H) : Value × AHeap)))) (by kernel_rfl) rfl
theorem f16_F_1 {x0a : Option Addr} {x0n x0c : Nat} {H : AHeap} {prot : Nat} {x6 : Int} {x11a : Option Addr} {x11n x11c : Nat} {H1 : AHeap} (rv : Value) (rH : AHeap) (h1 : callInf cfg 22 [Value.slice x0a x0n x0c] (List.length H) H = some (Value.int .i64 x6, H)) (h2 : (x6 != 0) = false) (h3 : callInf cfg 23 [Value.slice x0a x0n x0c] (List.length H) H = some (Value.slice x11a x11n x11c, H1)) (h4 : pfin a16 H [Value.slice x11a x11n x11c, Value.int .i64 0] H1 = (rv, rH)) : callInf cfg 16 [.slice x0a x0n x0c] prot H = some (rv, rH) :=
  fn_of2 a16 [.v (.int .i64 x6), .e, .b false, .r (.slice x11a x11n x11c) H1] (ai h1 (ai h2 (ai h3 h4))) (by kernel_rfl) rfl
end Go.Proofs.YtkemihfaohkoeaaDoor.Am11d
namespace Go.Proofs.YtkemihfaohkoeaaDoor.Am11d
open Go Go.Proofs.YtkemihfaohkoeaaDoor.Am
theorem c10 {G : List (List Int)} (hs : Short G) (hE : lens G ≤ 1048576) {vG : Value} (prot : Nat) {H : AHeap} (hg : Gr H vG G) :
    (chk G ≠ 0 ∧ callInf cfg 16 [vG] prot H = some (.tuple #[.slice none 0 0, .int .i64 (chk G)], H)) ∨
    (chk G = 0 ∧ ∃ x' H', callInf cfg 16 [vG] prot H = some (.tuple #[x', .int .i64 0], H') ∧ Mine H.length H' x' G.length (turnT G) ∧ Stay none H H') := by
  have h25 := c25 hs H.length hg
  by_cases h : chk G = 0
  · refine .inr ⟨h, ?_⟩
    have hG := good_of hs h
    obtain ⟨y, H1, w1, w2, w3⟩ := c33 hG hE H.length hg
    obtain ⟨x', H', g1, g2, g3⟩ := gc_mine (H := H) w2 w3 (ps := [.int .i64 0]) rfl
    refine ⟨x', H', ?_, g2, g3⟩
    obtain ⟨_, hx1, _⟩ := w2.rd
    obtain ⟨_, _, rfl⟩ := hx1.len
    obtain ⟨aG, cG, rfl⟩ := hg.len
    exact f16_F_1 _ _ h25 (by simp [h]) w1 (by rw [pfin_eq, if_neg (by simp [a16])]; exact g1)
  · refine .inl ⟨h, ?_⟩
    obtain ⟨aG, cG, rfl⟩ := hg.len
    exact f16_F_0 h25 (by simpa using h)
end Go.Proofs.YtkemihfaohkoeaaDoor.Am11d
namespace Go.Proofs.YtkemihfaohkoeaaDoor.Am
open Go
/-! The lowest bit of a word. -/
/-- A word's bits from k on: k is in, x - 1 has the same bits above k. -/
theorem low_bits {x k : Nat} (hx : x ≠ 0) (hk : x.testBit k = true) (hl : ∀ b, b < k → x.testBit b = false) (b : Nat) :
    (x - 1).testBit b = (if b < k then true else if b = k then false else x.testBit b) := by
  have hmod : x % 2 ^ (k + 1) = 2 ^ k := by
    apply Nat.eq_of_testBit_eq
    intro j
    rw [Nat.testBit_mod_two_pow, Nat.testBit_two_pow]
    by_cases h1 : j < k
    · rw [hl j h1]; simp; omega
    · by_cases h2 : j = k
      · subst h2; simp [hk]
      · rw [decide_eq_false (show ¬ j < k + 1 by omega), decide_eq_false (show ¬ k = j by omega)]; rfl
  have hpos : 0 < 2 ^ k := Nat.two_pow_pos k
  have hq : 2 ^ (k + 1) = 2 * 2 ^ k := by rw [Nat.pow_succ]; omega
  obtain ⟨m, hm⟩ : ∃ m, x = 2 ^ (k + 1) * m + 2 ^ k := ⟨x / 2 ^ (k + 1), by have := Nat.div_add_mod x (2 ^ (k + 1)); omega⟩
  have e1 : x - 1 = 2 ^ (k + 1) * m + (2 ^ k - 1) := by omega
  rw [e1, Nat.testBit_two_pow_mul_add _ (by omega)]
  by_cases h1 : b < k
  · rw [if_pos (by omega), if_pos h1, Nat.testBit_two_pow_sub_one]; simp [h1]
  · by_cases h2 : b = k
    · rw [if_pos (by omega), if_neg h1, if_pos h2, Nat.testBit_two_pow_sub_one]; simp; omega
    · rw [if_neg (by omega), if_neg h1, if_neg h2, hm, Nat.testBit_two_pow_mul_add _ (by omega), if_neg (by omega)]
theorem low_clear {x k : Nat} (hx : x ≠ 0) (hk : x.testBit k = true) (hl : ∀ b, b < k → x.testBit b = false) (b : Nat) :
    (x &&& (x - 1)).testBit b = (x.testBit b && !decide (b = k)) := by
  rw [Nat.testBit_and, low_bits hx hk hl]
  by_cases h1 : b < k
  · rw [hl b h1]; rfl
  · rw [if_neg h1]
    by_cases h2 : b = k
    · rw [if_pos h2]; simp [h2]
    · rw [if_neg h2]; simp [h2]
theorem low_one {x k : Nat} (hx : x ≠ 0) (hlt : x < 2 ^ 64) (hk : x.testBit k = true) (hl : ∀ b, b < k → x.testBit b = false) :
    x &&& (2 ^ 64 - x) = 2 ^ k := by
  have hk64 : k < 64 := by
    apply Decidable.byContradiction
    intro h
    have : x.testBit k = false := Nat.testBit_lt_two_pow (Nat.lt_of_lt_of_le hlt (Nat.pow_le_pow_right (by omega) (by omega)))
    rw [hk] at this; cases this
  apply Nat.eq_of_testBit_eq
  intro b
  have e : 2 ^ 64 - x = 2 ^ 64 - ((x - 1) + 1) := by omega
  rw [Nat.testBit_and, e, Nat.testBit_two_pow_sub_succ (by omega), low_bits hx hk hl, Nat.testBit_two_pow]
  by_cases h1 : b < k
  · rw [hl b h1, decide_eq_false (show ¬ k = b by omega)]; rfl
  · by_cases h2 : b = k
    · subst h2; simp [hk, hk64]
    · rw [if_neg h1, if_neg h2, decide_eq_false (show ¬ k = b by omega)]
      cases x.testBit b <;> simp
/-- The table of math/bits tells where it is. -/
theorem low_table : ∀ k : Fin 64, dBtab[((2 ^ k.val % 18446744073709551616 * 285870213051353865) % 18446744073709551616) / 288230376151711744]? = some k.val := by decide +kernel
theorem ofInt_sub {x : Nat} (hx : x ≠ 0) (hlt : x < 18446744073709551616) : IntKind.u64.wrap (0 - (x : Int)) = ((18446744073709551616 - x : Nat) : Int) := by
  simp only [IntKind.wrap]
  show (if (false && decide ((0 - (x : Int)) % (18446744073709551616 : Int) ≥ (9223372036854775808 : Int))) = true then (0 - (x : Int)) % (18446744073709551616 : Int) - 18446744073709551616 else (0 - (x : Int)) % (18446744073709551616 : Int)) = _
  rw [if_neg (by simp)]
  omega
theorem ofInt_pred {x : Nat} (hx : x ≠ 0) (hlt : x < 18446744073709551616) : IntKind.u64.wrap ((x : Int) - 1) = ((x - 1 : Nat) : Int) := by
  rw [show (x : Int) - 1 = ((x - 1 : Nat) : Int) by omega, u64_wrapN, Nat.mod_eq_of_lt (by omega)]
/-- x & (x - 1) -/
theorem u64_clear {x : Nat} (hx : x ≠ 0) (hlt : x < 18446744073709551616) :
    IntKind.u64.wrap (((BitVec.ofInt IntKind.u64.bits (x : Int) &&& BitVec.ofInt IntKind.u64.bits (IntKind.u64.wrap ((x : Int) - 1))).toNat : Nat) : Int) = ((x &&& (x - 1) : Nat) : Int) := by
  rw [ofInt_pred hx hlt, BitVec.toNat_and, ofInt_natU _ hlt, ofInt_natU _ (by omega), u64_wrapN, Nat.mod_eq_of_lt (Nat.lt_of_le_of_lt Nat.and_le_left hlt)]
/-- (x & -x) * deBruijn >> 58 -/
theorem u64_low {x k : Nat} (hx : x ≠ 0) (hlt : x < 18446744073709551616) (hk : x.testBit k = true) (hl : ∀ b, b < k → x.testBit b = false) :
    (IntKind.u64.wrap (IntKind.u64.wrap (((BitVec.ofInt IntKind.u64.bits (x : Int) &&& BitVec.ofInt IntKind.u64.bits (IntKind.u64.wrap (0 - (x : Int)))).toNat : Nat) : Int) * 285870213051353865)).fdiv (2 ^ min (Int.toNat 58) IntKind.u64.bits) = (((2 ^ k % 18446744073709551616 * 285870213051353865) % 18446744073709551616 / 288230376151711744 : Nat) : Int) := by
  rw [ofInt_sub hx hlt, BitVec.toNat_and, ofInt_natU _ hlt, ofInt_natU _ (by omega)]
  rw [show x &&& (18446744073709551616 - x) = 2 ^ k from low_one hx hlt hk hl, u64_wrapN]
  rw [show (((2 ^ k % 18446744073709551616 : Nat) : Int) * 285870213051353865) = ((2 ^ k % 18446744073709551616 * 285870213051353865 : Nat) : Int) from (Int.natCast_mul _ _).symm, u64_wrapN]
  show ((_ : Nat) : Int).fdiv 288230376151711744 = _
  rw [Int.fdiv_eq_ediv_of_nonneg _ (by omega)]
  rfl
theorem low_lt {x k : Nat} (hlt : x < 18446744073709551616) (hk : x.testBit k = true) : k < 64 := by
  apply Decidable.byContradiction
  intro h
  have : x.testBit k = false := Nat.testBit_lt_two_pow (Nat.lt_of_lt_of_le (show x < 2 ^ 64 from hlt) (Nat.pow_le_pow_right (by omega) (by omega)))
  rw [hk] at this; cases this
/-- The first one of what is told, below a bound. -/
theorem first_of {p : Nat → Bool} : ∀ {n : Nat}, (∃ b, b < n ∧ p b = true) → ∃ k, k < n ∧ p k = true ∧ ∀ b, b < k → p b = false
  | 0, ⟨b, h, _⟩ => by omega
  | n + 1, ⟨b, h, hb⟩ => by
    by_cases h0 : ∃ b, b < n ∧ p b = true
    · obtain ⟨k, h1, h2, h3⟩ := first_of h0
      exact ⟨k, by omega, h2, h3⟩
    · refine ⟨n, by omega, ?_, fun c hc => ?_⟩
      · by_cases e : b = n
        · subst e; exact hb
        · exact absurd ⟨b, by omega, hb⟩ h0
      · cases hp : p c with
        | false => rfl
        | true => exact absurd ⟨c, hc, hp⟩ h0
/-! ### The numbers of a set, in order -/
def lst (S : Nat → Bool) (n : Nat) : List Nat := (List.range n).filter S
theorem lst_more {S : Nat → Bool} {a : Nat} : ∀ {b : Nat}, a ≤ b → (∀ i, a ≤ i → i < b → S i = false) → lst S b = lst S a
  | 0, h, _ => by have : a = 0 := by omega
                  subst this; rfl
  | b + 1, h, hn => by
    by_cases e : a = b + 1
    · subst e; rfl
    · have := lst_more (b := b) (by omega) (fun i h1 h2 => hn i h1 (by omega))
      rw [← this]
      unfold lst
      rw [List.range_succ, List.filter_append, List.filter_cons, if_neg (by rw [hn b (by omega) (by omega)]; simp)]
      simp
theorem lst_next {S : Nat → Bool} {a k : Nat} (h : a ≤ k) (hk : S k = true) (hn : ∀ i, a ≤ i → i < k → S i = false) : lst S (k + 1) = lst S a ++ [k] := by
  rw [← lst_more h hn]
  unfold lst
  rw [List.range_succ, List.filter_append, List.filter_cons, if_pos hk]
  rfl
theorem lst_len (S : Nat → Bool) (n : Nat) : (lst S n).length ≤ n := by
  have := List.length_filter_le S (List.range n)
  rw [List.length_range] at this
  exact this
theorem lst_mem {S : Nat → Bool} {n i : Nat} : i ∈ lst S n ↔ i < n ∧ S i = true := by
  unfold lst; rw [List.mem_filter, List.mem_range]
end Go.Proofs.YtkemihfaohkoeaaDoor.Am
set_option linter.unusedVariables false
open Go Go.Proofs.YtkemihfaohkoeaaDoor.Am
namespace Go.Proofs.YtkemihfaohkoeaaDoor.Am11d
theorem f26_F_0 {x0 : Array Value} {H : AHeap} {prot : Nat} {x4 : Array Value} {H1 : AHeap} {x7a : Option Addr} {x7n x7c : Nat} (rv : Value) (rH : AHeap) (h1 : x0.toList.all isCell = true) (h2 : getCells (H ++ [AObj.cells x0.toList 46 x0.toList.length OMode.var] ++ [vo [Value.slice none 0 0] 24]) (List.length H) x0.toList.length 0 8 = some x4.toList) (h3 : callInf cfg 38 [Value.agg x4, Value.func (Fn.func 39) { toList := [] } { toList := [Value.pointer (some ⟨List.length (H ++ [AObj.cells x0.toList 46 x0.toList.length OMode.var]), 0, some [Value.slice none 0 0].length⟩)] }] (List.length H) (H ++ [AObj.cells x0.toList 46 x0.toList.length OMode.var] ++ [vo [Value.slice none 0 0] 24]) = some (Value.tuple { toList := [] }, H1)) (h4 : getCells H1 (List.length (H ++ [AObj.cells x0.toList 46 x0.toList.length OMode.var])) [Value.slice none 0 0].length 0 1 = some [Value.slice x7a x7n x7c]) (h5 : pfin a26 H [Value.slice x7a x7n x7c] H1 = (rv, rH)) : callInf cfg 26 [.agg x0] prot H = some (rv, rH) :=
  fn_of2 a26 [.e, .e, .v (.agg x4), .r (.tuple #[]) H1, .v (.slice x7a x7n x7c)] (ai h1 (ai h2 (ai h3 (ai h4 h5)))) (by kernel_rfl) rfl
end Go.Proofs.YtkemihfaohkoeaaDoor.Am11d
set_option linter.unusedVariables false
open Go Go.Proofs.YtkemihfaohkoeaaDoor.Am
namespace Go.Proofs.YtkemihfaohkoeaaDoor.Am11d
theorem f38_F_0 {x0 : Array Value} {x1ap x1ao x1al : Nat} {H : AHeap} {prot : Nat} {x6 : Array Value} {H1 : AHeap} (h1 : x0.toList.all isCell = true) (h2 : getCells (H ++ [AObj.cells x0.toList 46 x0.toList.length OMode.var]) (List.length H) x0.toList.length 0 8 = some x6.toList) (h3 : lpInf (lpOf cfg a38 0 prot H) ([Value.func (Fn.func 39) { toList := [] } { toList := [Value.pointer (some ⟨x1ap, x1ao, some x1al⟩)] }, Value.agg x6, Value.int .i64 0], H ++ [AObj.cells x0.toList 46 x0.toList.length OMode.var]) = some (Ex.exit 0, [], H1)) : callInf cfg 38 [.agg x0, .func (.func 39) #[] #[.pointer (some ⟨x1ap, x1ao, some x1al⟩)]] prot H = some (Value.tuple { toList := [] }, H1) :=
  fn_of2 a38 [.e, .v (.agg x6), .lo (.exit 0, [], H1)] (ai h1 (ai h2 (ai h3 (Eq.refl ((Value.tuple { toList := [] }, H1) : Value × AHeap))))) (by kernel_rfl) rfl
theorem f38_L0_0 {x1ap x1ao x1al : Nat} {x6 : Array Value} {x7 : Int} {H0 : AHeap} {prot : Nat} {H : AHeap} {x10 : Int} {z1ap z1ao z1al : Nat} {z6 : Array Value} {z7 : Int} {H2 : AHeap} (h1 : x7 < 8) (h2 : aindex cfg.P 46 (Value.agg x6) (Value.int .i64 x7) = some (Value.int .u64 x10)) (h3 : lpInf (lpOf cfg a38 1 prot H0) ([Value.func (Fn.func 39) { toList := [] } { toList := [Value.pointer (some ⟨x1ap, x1ao, some x1al⟩)] }, Value.int .i64 x7, Value.int .u64 x10, Value.agg x6, Value.int .i64 x7], H) = some (Ex.exit 2, [Value.func (Fn.func 39) { toList := [] } { toList := [Value.pointer (some ⟨z1ap, z1ao, some z1al⟩)] }, Value.agg z6, Value.int .i64 z7], H2)) (h4 : Fit .i64 (z7 + 1)) : lpOf cfg a38 0 prot H0 ([.func (.func 39) #[] #[.pointer (some ⟨x1ap, x1ao, some x1al⟩)], .agg x6, .int .i64 x7], H) = some (Sum.inl ([Value.func (Fn.func 39) { toList := [] } { toList := [Value.pointer (some ⟨z1ap, z1ao, some z1al⟩)] }, Value.agg z6, Value.int .i64 (z7 + 1)], H2)) :=
  lp_of2 [.e, .b true, .v (.int .u64 x10), .lo (.exit 2, [.func (.func 39) #[] #[.pointer (some ⟨z1ap, z1ao, some z1al⟩)], .agg z6, .int .i64 z7], H2), .e] (ai (decide_eq_true h1) (ai h2 (ai h3 (ai h4 (Eq.refl (Sum.inl ([Value.func (Fn.func 39) { toList := [] } { toList := [Value.pointer (some ⟨z1ap, z1ao, some z1al⟩)] }, Value.agg z6, Value.int .i64 (z7 + 1)], H2) : LS ⊕ LO)))))) (by kernel_rfl)
theorem f38_L0_2 {x1ap x1ao x1al : Nat} {x6 : Array Value} {x7 : Int} {H0 : AHeap} {prot : Nat} {H : AHeap} (h1 : ¬(x7 < 8)) : lpOf cfg a38 0 prot H0 ([.func (.func 39) #[] #[.pointer (some ⟨x1ap, x1ao, some x1al⟩)], .agg x6, .int .i64 x7], H) = some (Sum.inr (Ex.exit 0, [], H)) :=
  lp_of2 [.e, .b false] (ai (decide_eq_false h1) (Eq.refl (Sum.inr (Ex.exit 0, [], H) : LS ⊕ LO))) (by kernel_rfl)
theorem f38_L1_0 {x1ap x1ao x1al : Nat} {x4 x5 : Int} {x6 : Array Value} {x7 : Int} {H0 : AHeap} {prot : Nat} {H : AHeap} {x21 : Int} {x23 : Bool} {H2 : AHeap} (h1 : (x5 != 0) = true) (h2 : Fit .i64 (64 * x4)) (h3 : callInf cfg 47 [Value.int .u64 x5] prot H = some (Value.int .i64 x21, H)) (h4 : Fit .i64 (64 * x4 + x21)) (h5 : callInf cfg 39 [Value.int .i64 (64 * x4 + x21), Value.pointer (some ⟨x1ap, x1ao, some x1al⟩)] prot H = some (Value.bool x23, H2)) (h6 : (!x23) = false) : lpOf cfg a38 1 prot H0 ([.func (.func 39) #[] #[.pointer (some ⟨x1ap, x1ao, some x1al⟩)], .int .i64 x4, .int .u64 x5, .agg x6, .int .i64 x7], H) = some (Sum.inl ([Value.func (Fn.func 39) { toList := [] } { toList := [Value.pointer (some ⟨x1ap, x1ao, some x1al⟩)] }, Value.int .i64 x4, Value.int .u64 (IntKind.u64.wrap (↑(BitVec.ofInt IntKind.u64.bits x5 &&& BitVec.ofInt IntKind.u64.bits (IntKind.u64.wrap (x5 - 1))).toNat : Int)), Value.agg x6, Value.int .i64 x7], H2)) :=
  lp_of2 [.e, .b true, .e, .v (.int .i64 x21), .e, .r (.bool x23) H2, .e, .b false, .e, .e] (ai h1 (ai h2 (ai h3 (ai h4 (ai h5 (ai h6 (Eq.refl (Sum.inl ([Value.func (Fn.func 39) { toList := [] } { toList := [Value.pointer (some ⟨x1ap, x1ao, some x1al⟩)] }, Value.int .i64 x4, Value.int .u64 (IntKind.u64.wrap (↑(BitVec.ofInt IntKind.u64.bits x5 &&& BitVec.ofInt IntKind.u64.bits (IntKind.u64.wrap (x5 - 1))).toNat : Int)), Value.agg x6, Value.int .i64 x7], H2) : LS ⊕ LO)))))))) (by kernel_rfl)
theorem f38_L1_2 {x1ap x1ao x1al : Nat} {x4 x5 : Int} {x6 : Array Value} {x7 : Int} {H0 : AHeap} {prot : Nat} {H : AHeap} (h1 : (x5 != 0) = false) : lpOf cfg a38 1 prot H0 ([.func (.func 39) #[] #[.pointer (some ⟨x1ap, x1ao, some x1al⟩)], .int .i64 x4, .int .u64 x5, .agg x6, .int .i64 x7], H) = some (Sum.inr (Ex.exit 2, [Value.func (Fn.func 39) { toList := [] } { toList := [Value.pointer (some ⟨x1ap, x1ao, some x1al⟩)] }, Value.agg x6, Value.int .i64 x7], H)) :=
  lp_of2 [.e, .b false] (ai h1 (Eq.refl (Sum.inr (Ex.exit 2, [Value.func (Fn.func 39) { toList := [] } { toList := [Value.pointer (some ⟨x1ap, x1ao, some x1al⟩)] }, Value.agg x6, Value.int .i64 x7], H) : LS ⊕ LO))) (by kernel_rfl)
end Go.Proofs.YtkemihfaohkoeaaDoor.Am11d
set_option linter.unusedVariables false
open Go Go.Proofs.YtkemihfaohkoeaaDoor.Am
namespace Go.Proofs.YtkemihfaohkoeaaDoor.Am11d
theorem f39_F_0 {x0 : Int} {x1p x1o x1l : Nat} {H : AHeap} {prot : Nat} {x4a : Option Addr} {x4n x4c : Nat} {x7a : Option Addr} {x7n x7c : Nat} {H1 H2 : AHeap} (h1 : getCells H x1p x1l x1o 1 = some [Value.slice x4a x4n x4c]) (h2 : aappend cfg.P prot true 24 24 (Value.slice x4a x4n x4c) (Value.slice (some ⟨List.length H, 0, some (1 * 1)⟩) 1 1) (H ++ [wo [Value.int .i64 x0] 3]) = some (Value.slice x7a x7n x7c, H1)) (h3 : [Value.slice x7a x7n x7c].length = 1) (h4 : setCells H1 prot x1p x1l x1o [Value.slice x7a x7n x7c] = some H2) : callInf cfg 39 [.int .i64 x0, .pointer (some ⟨x1p, x1o, some x1l⟩)] prot H = some (Value.bool true, H2) :=
  fn_of2 a39 [.v (.slice x4a x4n x4c), .e, .r (.slice x7a x7n x7c) H1, .h H2] (ai h1 (ai h2 (ai h3 (ai h4 (Eq.refl ((Value.bool true, H2) : Value × AHeap)))))) (by kernel_rfl) rfl
end Go.Proofs.YtkemihfaohkoeaaDoor.Am11d
set_option linter.unusedVariables false
open Go Go.Proofs.YtkemihfaohkoeaaDoor.Am
namespace Go.Proofs.YtkemihfaohkoeaaDoor.Am11d
theorem f47_F_1 {x0 : Int} {H : AHeap} {prot : Nat} {x12 : Int} (h1 : (x0 == 0) = false) (h2 : (0 : Int) ≤ 58) (h3 : 0 ≤ (IntKind.u64.wrap (IntKind.u64.wrap (↑(BitVec.ofInt IntKind.u64.bits x0 &&& BitVec.ofInt IntKind.u64.bits (IntKind.u64.wrap (0 - x0))).toNat : Int) * 285870213051353865)).fdiv (2 ^ min (Int.toNat 58) IntKind.u64.bits)) (h4 : (IntKind.u64.wrap (IntKind.u64.wrap (↑(BitVec.ofInt IntKind.u64.bits x0 &&& BitVec.ofInt IntKind.u64.bits (IntKind.u64.wrap (0 - x0))).toNat : Int) * 285870213051353865)).fdiv (2 ^ min (Int.toNat 58) IntKind.u64.bits) < (↑64 : Int)) (h5 : knownAt cfg.P 0 (0 + ((IntKind.u64.wrap (IntKind.u64.wrap (↑(BitVec.ofInt IntKind.u64.bits x0 &&& BitVec.ofInt IntKind.u64.bits (IntKind.u64.wrap (0 - x0))).toNat : Int) * 285870213051353865)).fdiv (2 ^ min (Int.toNat 58) IntKind.u64.bits)).toNat * 1) = some (Value.int .u8 x12)) (h6 : Fit .i64 x12) : callInf cfg 47 [.int .u64 x0] prot H = some (Value.int .i64 x12, H) :=
  fn_of2 a47 [.e, .b false, .e, .e, .e, .e, .e, .v (.int .u8 x12), .e] (ai h1 (ai h2 (ai h3 (ai h4 (ai h5 (ai h6 (Eq.refl ((Value.int .i64 x12, H) : Value × AHeap)))))))) (by kernel_rfl) rfl
end Go.Proofs.YtkemihfaohkoeaaDoor.Am11d
namespace Go.Proofs.YtkemihfaohkoeaaDoor.Am11d
open Go Go.Proofs.YtkemihfaohkoeaaDoor.Am
/-! bits.List -/
theorem kn0 : known cfg.P 0 = some (dBtab.map fun (n : Nat) => .int .u8 (n : Int)) := by kernel_rfl
theorem cTz {x k : Nat} (hx : x ≠ 0) (hlt : x < 18446744073709551616) (hk : x.testBit k = true) (hl : ∀ b, b < k → x.testBit b = false) (prot : Nat) (H : AHeap) :
    callInf cfg 47 [.int .u64 x] prot H = some (.int .i64 k, H) := by
  have hk64 := low_lt hlt hk
  have e := u64_low hx hlt hk hl
  have ht := low_table ⟨k, hk64⟩
  have hlt64 := (List.getElem?_eq_some_iff.1 ht).1
  have h64 : dBtab.length = 64 := rfl
  refine f47_F_1 (x12 := (k : Int)) (by simp; omega) (by omega) (by rw [e]; omega) (by rw [e]; simp only at hlt64; omega) ?_ (fit64 (by omega) (by omega))
  rw [e, Int.toNat_natCast, Nat.zero_add, Nat.mul_one]
  unfold knownAt
  rw [kn0, Option.bind_some, List.getElem?_map, ht]
  rfl
/-- A variable that holds a growing list of one's own. -/
structure LV (B H : AHeap) (p : Nat) (l : List Nat) : Prop where
  v : ∃ x o, H[p]? = some (.cells [x] 24 1 .var) ∧ Own H 3 1 x o l.length (il (nl l)) ∧ ∀ id, o = some id → B.length ≤ id ∧ id ≠ p
  st : Stay none B H
  lo : B.length ≤ p
theorem il_app (l : List Nat) (i : Nat) : il (nl l) ++ [Value.int .i64 (i : Int)] = il (nl (l ++ [i])) := by simp [il, nl]
theorem cPut {B H : AHeap} {p i : Nat} {l : List Nat} (h : LV B H p l) (hl : l.length ≤ 1000000) : ∃ H', callInf cfg 39 [.int .i64 i, .pointer (some ⟨p, 0, some 1⟩)] B.length H = some (.bool true, H') ∧ LV B H' p (l ++ [i]) := by
  obtain ⟨x, o, g, ho, hid⟩ := h.v
  obtain ⟨a, c, rfl⟩ := ho.len
  have hpl := (List.getElem?_eq_some_iff.1 g).1
  have hBH := h.st.1
  obtain ⟨a', c', o', H1, q1, q2, q3, q4, q5, q6⟩ := own_app T34 ho (ecs := [.int .i64 (i : Int)]) rfl rfl (prot := B.length) (room := true) (fun id e => (hid id e).1) hBH (by omega) (L := 1 * 1) rfl (el := [Value.int .i64 (i : Int)].length) rfl
  rw [il_app] at q2
  have hne : o ≠ some p := fun e => (hid p e).2 rfl
  have g1 : H1[p]? = some (.cells [.slice a l.length c] 24 1 .var) := by rw [q3.2 p hpl hne]; exact g
  have ho' : o' ≠ p := by
    cases o with
    | none => have := q5 rfl; omega
    | some id => rw [q6 id rfl]; exact (hid id rfl).2
  obtain ⟨H2, hH2⟩ : ∃ H2, H2 = H1.set p (.cells [.slice a' (l.length + 1) c'] 24 1 .var) := ⟨_, rfl⟩
  have s2 : Stay (some p) H1 H2 := by rw [hH2]; exact set_stay
  have e2 : setCells H1 B.length p 1 0 [.slice a' (l.length + 1) c'] = some H2 := by rw [hH2]; exact arr_put g1 rfl h.lo rfl rfl
  have hpl1 := (List.getElem?_eq_some_iff.1 g1).1
  refine ⟨H2, f39_F_0 (one_get g) q1 rfl e2, ⟨⟨_, some o', by rw [hH2, List.getElem?_set_self hpl1], ?_, fun id e => by cases e; exact ⟨q4, ho'⟩⟩, (h.st.over q3 (fun id e => (hid id e).1)).over s2 (fun id e => by cases e; exact h.lo), h.lo⟩⟩
  rw [List.length_append, List.length_singleton]
  exact q2.stay s2 (fun id e1 e2 => by cases e1; exact ho' (Option.some.inj e2).symm)

theorem un46 : cfg.P.underlying 46 = some (.array 8 44) := by kernel_rfl
theorem sz44 : tsize cfg.P 44 = some 1 := by kernel_rfl
theorem ag44 : tagg cfg.P 44 = some false := by kernel_rfl
theorem set_index {S : Nat → Bool} {w : Nat} (h : w < 8) : aindex cfg.P 46 (.agg (setA S)) (.int .i64 w) = some (.int .u64 ((wordS S w : Nat) : Int)) := by
  have hg := setL_get (S := S) h
  have hl := setL_len S
  unfold aindex
  rw [un46]
  simp only [sz44, Option.bind_some]
  rw [if_pos ⟨by omega, by omega⟩]
  unfold apart
  rw [ag44, sz44]
  simp only
  rw [Int.toNat_natCast, Nat.mul_one]
  show (if w < (setL S).length then some ((setL S).getD w undef) else none) = _
  rw [if_pos (by omega), List.getD_eq_getElem?_getD, hg]; rfl
/-- One word's bits. -/
theorem loop38i {B : AHeap} {S : Nat → Bool} {A : Array Value} {w p : Nat} {H0 : AHeap} (hw : w < 8) : ∀ (d k : Nat) (H : AHeap), k + d = 64 → LV B H p (lst S (64 * w + k)) →
    ∃ H', lpInf (lpOf cfg a38 1 B.length H0) ([.func (.func 39) #[] #[.pointer (some ⟨p, 0, some 1⟩)], .int .i64 w, .int .u64 ((natOf (fun b => S (64 * w + b) && decide (k ≤ b)) 64 : Nat) : Int), .agg A, .int .i64 w], H)
      = some (.exit 2, [.func (.func 39) #[] #[.pointer (some ⟨p, 0, some 1⟩)], .agg A, .int .i64 w], H') ∧ LV B H' p (lst S (64 * w + 64)) := by
  intro d
  induction d using Nat.strongRecOn with
  | _ d ih =>
    intro k H hd hL
    have hlt := natOf_lt (fun b => S (64 * w + b) && decide (k ≤ b)) 64
    have hbit := fun j => natOf_bit (fun b => S (64 * w + b) && decide (k ≤ b)) j 64
    by_cases hx : natOf (fun b => S (64 * w + b) && decide (k ≤ b)) 64 = 0
    · refine ⟨H, ?_, ?_⟩
      · rw [hx]; exact lp_last (f38_L1_2 (by simp))
      · rw [lst_more (a := 64 * w + k) (by omega) (fun i h1 h2 => ?_)]
        · exact hL
        · have hb := hbit (i - 64 * w)
          rw [hx] at hb
          simp only [Nat.zero_testBit] at hb
          rw [decide_eq_true (show i - 64 * w < 64 by omega), show 64 * w + (i - 64 * w) = i by omega, decide_eq_true (show k ≤ i - 64 * w by omega)] at hb
          simpa using hb.symm
    · generalize hX : natOf (fun b => S (64 * w + b) && decide (k ≤ b)) 64 = X at *
      obtain ⟨j, hj⟩ := Nat.exists_testBit_of_ne_zero hx
      have hj64 := low_lt hlt hj
      obtain ⟨t, t1, t2, t3⟩ := first_of (p := fun b => X.testBit b) ⟨j, hj64, hj⟩
      have hbt := hbit t
      rw [t2, decide_eq_true t1, Bool.true_and] at hbt
      have hbt := (Bool.and_eq_true _ _).mp hbt.symm
      have hkt : k ≤ t := by simpa using hbt.2
      have hnone : ∀ i, 64 * w + k ≤ i → i < 64 * w + t → S i = false := fun i h1 h2 => by
        have hb := hbit (i - 64 * w)
        rw [t3 _ (by omega), decide_eq_true (show i - 64 * w < 64 by omega), show 64 * w + (i - 64 * w) = i by omega, decide_eq_true (show k ≤ i - 64 * w by omega)] at hb
        simpa using hb.symm
      have hnext := lst_next (show 64 * w + k ≤ 64 * w + t by omega) hbt.1 hnone
      have hlen := lst_len S (64 * w + k)
      obtain ⟨H2, c1, c2⟩ := cPut (i := 64 * w + t) hL (by omega)
      rw [← hnext] at c2
      have hclr : X &&& (X - 1) = natOf (fun b => S (64 * w + b) && decide (t + 1 ≤ b)) 64 := by
        apply Nat.eq_of_testBit_eq
        intro b
        rw [low_clear hx t2 t3, natOf_bit, hbit]
        by_cases hb : b < 64
        · rw [decide_eq_true hb, Bool.true_and, Bool.true_and]
          by_cases h1 : b < t
          · rw [decide_eq_false (show ¬ t + 1 ≤ b by omega), Bool.and_false]
            have := hbit b
            rw [t3 b h1, decide_eq_true hb, Bool.true_and] at this
            rw [← this]; rfl
          · by_cases h2 : b = t
            · subst h2; simp
            · rw [decide_eq_true (show t + 1 ≤ b by omega), decide_eq_true (show k ≤ b by omega), decide_eq_false h2]; simp
        · rw [decide_eq_false hb]; rfl
      obtain ⟨H', z1, z2⟩ := ih (63 - t) (by omega) (t + 1) H2 (by omega) c2
      refine ⟨H', ?_, z2⟩
      have e1 : (64 : Int) * (w : Int) + (t : Int) = ((64 * w + t : Nat) : Int) := by push_cast; rfl
      rw [← hclr] at z1
      rw [← u64_clear hx hlt] at z1
      refine lp_next (f38_L1_0 (x21 := (t : Int)) (by simp; omega) (fit64 (by omega) (by omega)) (cTz hx hlt t2 t3 _ _) (fit64 (by omega) (by omega)) (by rw [e1]; exact c1) rfl) z1
theorem loop38o {B : AHeap} {S : Nat → Bool} {p : Nat} {H0 : AHeap} : ∀ (d w : Nat) (H : AHeap), w + d = 8 → LV B H p (lst S (64 * w)) →
    ∃ H', lpInf (lpOf cfg a38 0 B.length H0) ([.func (.func 39) #[] #[.pointer (some ⟨p, 0, some 1⟩)], .agg (setA S), .int .i64 w], H) = some (.exit 0, [], H') ∧ LV B H' p (lst S 512)
  | 0, w, H, hw, hL => by
    have : w = 8 := by omega
    subst this
    exact ⟨H, lp_last (f38_L0_2 (by omega)), hL⟩
  | d + 1, w, H, hw, hL => by
    obtain ⟨H2, z1, z2⟩ := loop38i (A := setA S) (S := S) (p := p) (H0 := H0) (show w < 8 by omega) 64 0 H (by omega) hL
    obtain ⟨H', y1, y2⟩ := loop38o d (w + 1) H2 (by omega) z2
    refine ⟨H', ?_, y2⟩
    have e0 : natOf (fun b => S (64 * w + b) && decide (0 ≤ b)) 64 = wordS S w := by
      unfold wordS
      congr 1
      funext b
      simp
    rw [e0] at z1
    have hidx : aindex cfg.P 46 (.agg (setA S)) (.int .i64 w) = some (.int .u64 ((wordS S w : Nat) : Int)) := set_index (by omega)
    exact lp_next (f38_L0_0 (by omega) hidx z1 (fit64 (by omega) (by omega))) y1
theorem c38e {B : AHeap} {S : Nat → Bool} {p : Nat} {H : AHeap} (h : LV B H p []) :
    ∃ H', callInf cfg 38 [.agg (setA S), .func (.func 39) #[] #[.pointer (some ⟨p, 0, some 1⟩)]] B.length H = some (.tuple #[], H') ∧ LV B H' p (lst S 512) := by
  obtain ⟨HA, hHA⟩ : ∃ HA, HA = H ++ [AObj.cells (setL S) 46 (setL S).length .var] := ⟨_, rfl⟩
  have sA : Stay none H HA := by rw [hHA]; exact Stay.app none H _
  have gA : HA[H.length]? = some (.cells (setL S) 46 8 .var) := by rw [hHA, append_get.1, setL_len]
  have hLA : LV B HA p (lst S (64 * 0)) := by
    obtain ⟨x, o, g, ho, hid⟩ := h.v
    exact ⟨⟨x, o, by rw [sA.2 _ (List.getElem?_eq_some_iff.1 g).1 (by simp)]; exact g, ho.stay sA (fun _ _ h => by cases h), hid⟩, h.st.trans sA, h.lo⟩
  obtain ⟨H', z1, z2⟩ := loop38o (H0 := H) 8 0 HA (by omega) hLA
  refine ⟨H', ?_, z2⟩
  subst hHA
  have e8 : (setA S).toList.length = 8 := setL_len S
  exact f38_F_0 (x6 := setA S) (setL_cell S) (by rw [e8]; exact arr_all gA (setL_len S)) z1
theorem cList (S : Nat → Bool) (prot : Nat) (H : AHeap) :
    ∃ x H', callInf cfg 26 [.agg (setA S)] prot H = some (x, H') ∧ OwnE H' 3 x (lst S 512).length (il (nl (lst S 512))) H.length ∧ Stay none H H' := by
  obtain ⟨HA, hHA⟩ : ∃ HA, HA = H ++ [AObj.cells (setL S) 46 (setL S).length .var] := ⟨_, rfl⟩
  obtain ⟨HB, hHB⟩ : ∃ HB, HB = HA ++ [vo [.slice none 0 0] 24] := ⟨_, rfl⟩
  have sA : Stay none H HA := by rw [hHA]; exact Stay.app none H _
  have sB : Stay none HA HB := by rw [hHB]; exact Stay.app none HA _
  have lA : HA.length = H.length + 1 := by rw [hHA]; simp
  have gA : HA[H.length]? = some (.cells (setL S) 46 8 .var) := by rw [hHA, append_get.1, setL_len]
  have gA2 : HB[H.length]? = some (.cells (setL S) 46 8 .var) := by rw [sB.2 _ (by omega) (by simp)]; exact gA
  have gB : HB[HA.length]? = some (.cells [.slice none 0 0] 24 1 .var) := by rw [hHB]; exact append_get.1
  have hL : LV H HB HA.length [] := ⟨⟨_, none, gB, ⟨rfl, rfl, .inl rfl⟩, fun id e => by cases e⟩, sA.trans sB, by omega⟩
  obtain ⟨H1, z1, z2⟩ := c38e (S := S) hL
  obtain ⟨x, o, g, ho, hid⟩ := z2.v
  obtain ⟨a, c, rfl⟩ := ho.len
  obtain ⟨x', H', y1, y2, y3⟩ := gcE (H := H) (.inl ⟨o, ho, fun id e => (hid id e).1⟩) (by simp [il, nl, plain0]) (ps := []) rfl
  refine ⟨x', H', ?_, y2, y3⟩
  have e8 : (setA S).toList.length = 8 := setL_len S
  subst hHB; subst hHA
  exact f26_F_0 (x4 := setA S) _ _ (setL_cell S) (by rw [e8]; exact arr_all gA2 (setL_len S)) z1 (one_get g) (by rw [pfin_eq, if_neg (by simp [a26])]; exact y1)
end Go.Proofs.YtkemihfaohkoeaaDoor.Am11d
set_option linter.unusedVariables false
open Go Go.Proofs.YtkemihfaohkoeaaDoor.Am
namespace Go.Proofs.YtkemihfaohkoeaaDoor.Am11d
end Go.Proofs.YtkemihfaohkoeaaDoor.Am11d
namespace Go.Proofs.YtkemihfaohkoeaaDoor.Am11d
open Go Go.Proofs.YtkemihfaohkoeaaDoor.Am
/-! All that is reached, by a list of what is to be done. -/
def un (N : Nat) (S : Nat → Bool) : Nat := (List.range N).countP fun x => !S x
theorem un_succ (N : Nat) (S : Nat → Bool) : un (N + 1) S = un N S + (if S N then 0 else 1) := by
  unfold un
  rw [List.range_succ, List.countP_append]
  cases h : S N <;> simp [h]
theorem un_add {S : Nat → Bool} {u : Nat} (hs : S u = false) : ∀ N, un N (addS S u) + (if u < N then 1 else 0) = un N S
  | 0 => by simp [un]
  | N + 1 => by
    have ih := un_add hs N
    have e : addS S u N = (S N || decide (N = u)) := rfl
    have e1 := un_succ N (addS S u)
    have e2 := un_succ N S
    rw [e] at e1
    by_cases h : N = u
    · subst h
      rw [decide_eq_true rfl, Bool.or_true, if_pos rfl] at e1
      rw [hs, if_neg (by simp)] at e2
      rw [if_neg (by omega)] at ih
      rw [if_pos (by omega)]
      omega
    · rw [decide_eq_false h, Bool.or_false] at e1
      by_cases h2 : u < N
      · rw [if_pos h2] at ih
        rw [if_pos (by omega)]
        omega
      · rw [if_neg h2] at ih
        rw [if_neg (by omega)]
        omega
theorem un_le (N : Nat) (S : Nat → Bool) : un N S ≤ N := by
  have := List.countP_le_length (p := fun x => !S x) (l := List.range N)
  rw [List.length_range] at this
  exact this
/-- Vertices and all that they reach. -/
def RF (G : List (List Int)) (F : List Nat) (x : Nat) : Prop := x ∈ F ∨ ∃ f ∈ F, Rch G f x
noncomputable def rfS (G : List (List Int)) (F : List Nat) : Nat → Bool := fun x => @decide (RF G F x) (Classical.propDecidable _)
theorem rfS_iff {G : List (List Int)} {F : List Nat} {x : Nat} : rfS G F x = true ↔ RF G F x := by unfold rfS; exact @decide_eq_true_iff _ (Classical.propDecidable _)
theorem RF.step {G : List (List Int)} {F : List Nat} {x u : Nat} (h : RF G F x) (hu : u ∈ sc G x) : RF G F u := by
  rcases h with h | ⟨f, h1, h2⟩
  · exact .inr ⟨x, h, .one hu⟩
  · exact .inr ⟨f, h1, .step h2 hu⟩
structure WI (G : List (List Int)) (F : List Nat) (S : Nat → Bool) (todo : List Nat) (v : Nat) : Prop where
  sound : ∀ x, S x = true → RF G F x
  low : ∀ x, S x = true → x < G.length
  inS : ∀ t ∈ todo, S t = true
  clo : ∀ x, S x = true → x ∉ todo → x ≠ v → ∀ u ∈ sc G x, S u = true
  cnt : todo.length + un G.length S ≤ G.length
theorem WI.start (G : List (List Int)) (F : List Nat) (v : Nat) : WI G F noS [] v :=
  ⟨fun x h => (by cases h), fun x h => (by cases h), fun t h => (by cases h), fun x h => (by cases h), by have := un_le G.length noS; simpa using this⟩
theorem WI.push {G : List (List Int)} {F : List Nat} {S : Nat → Bool} {todo : List Nat} {v u : Nat} (h : WI G F S todo v) (hu : u < G.length) (hs : S u = false) (hr : RF G F u) : WI G F (addS S u) (todo ++ [u]) v := by
  have hadd : ∀ x, addS S u x = true ↔ S x = true ∨ x = u := fun x => by unfold addS; simp
  refine ⟨fun x hx => ?_, fun x hx => ?_, fun t ht => ?_, fun x hx h1 h2 w hw => ?_, ?_⟩
  · rcases (hadd x).1 hx with h1 | rfl
    · exact h.sound x h1
    · exact hr
  · rcases (hadd x).1 hx with h1 | rfl
    · exact h.low x h1
    · exact hu
  · rw [hadd]
    rcases List.mem_append.1 ht with h1 | h1
    · exact .inl (h.inS t h1)
    · exact .inr (List.mem_singleton.1 h1)
  · rw [hadd]
    rw [List.mem_append, List.mem_singleton, not_or] at h1
    rcases (hadd x).1 hx with h3 | h3
    · exact .inl (h.clo x h3 h1.1 h2 w hw)
    · exact absurd h3 h1.2
  · have h1 := un_add hs G.length
    rw [if_pos hu] at h1
    have := h.cnt
    rw [List.length_append, List.length_singleton]
    omega
theorem WI.done {G : List (List Int)} {F : List Nat} {S : Nat → Bool} (h : WI G F S [] G.length) (hF : ∀ f ∈ F, S f = true) : ∀ x, S x = rfS G F x := fun x => by
  rw [Bool.eq_iff_iff, rfS_iff]
  refine ⟨h.sound x, fun hx => ?_⟩
  have step : ∀ a b, S a = true → b ∈ sc G a → S b = true := fun a b ha hb => h.clo a ha (by simp) (by have := h.low a ha; omega) b hb
  rcases hx with hx | ⟨f, hf, hx⟩
  · exact hF x hx
  · have h0 := hF f hf
    induction hx with
    | one e => exact step _ _ h0 e
    | step _ e ih => exact step _ _ ih e

/-! ### The machine -/
structure Q (H0 H : AHeap) (p4 p5 : Nat) (x6 : Value) (o6 : Option Nat) (S : Nat → Bool) (todo : List Nat) : Prop where
  st : Stay none H0 H
  g5 : H[p5]? = some (.cells (setL S) 46 8 .var)
  b5 : H0.length ≤ p5
  g4 : H[p4]? = some (.cells (setL noS) 46 8 .var)
  n45 : p4 ≠ p5
  sk : Stk H 3 x6 o6 todo.length (il (nl todo))
  bo : ∀ id, o6 = some id → H0.length ≤ id ∧ id ≠ p5 ∧ id ≠ p4
theorem il_snoc (l : List Nat) (u : Nat) : il (nl (l ++ [u])) = il (nl l) ++ [.int .i64 (u : Int)] := by simp [il, nl]
theorem Q.push {H0 H : AHeap} {p4 p5 : Nat} {x6 : Value} {o6 : Option Nat} {S : Nat → Bool} {todo : List Nat} (h : Q H0 H p4 p5 x6 o6 S todo) {u : Nat} (ht : todo.length ≤ 512) :
    ∃ H2 a' c' o' H3, setCells H H0.length p5 8 0 (setA (addS S u)).toList = some H2 ∧ Stay none H0 H2 ∧ aappend cfg.P H0.length true 24 24 x6 (.slice (some ⟨H2.length, 0, some (1 * 1)⟩) 1 1) (H2 ++ [wo [.int .i64 (u : Int)] 3]) = some (.slice a' (todo.length + 1) c', H3) ∧
      Q H0 H3 p4 p5 (.slice a' (todo.length + 1) c') (some o') (addS S u) (todo ++ [u]) := by
  obtain ⟨H2, hH2⟩ : ∃ H2, H2 = H.set p5 (.cells (setL (addS S u)) 46 8 .var) := ⟨_, rfl⟩
  have lt5 := (List.getElem?_eq_some_iff.1 h.g5).1
  have s2 : Stay (some p5) H H2 := by rw [hH2]; exact set_stay
  have l2 : H2.length = H.length := by rw [hH2]; simp
  have g2 : H2[p5]? = some (.cells (setL (addS S u)) 46 8 .var) := by rw [hH2, List.getElem?_set_self lt5]
  have st2 := h.st.over s2 (fun id e => by have := Option.some.inj e; have := h.b5; omega)
  have k2 := h.sk.stay s2 (fun id e e2 => (h.bo id e).2.1 (Option.some.inj e2).symm)
  have lst := st2.1
  have lt4 := (List.getElem?_eq_some_iff.1 h.g4).1
  have g42 : H2[p4]? = some (.cells (setL noS) 46 8 .var) := by rw [s2.2 _ lt4 (fun e => h.n45 (Option.some.inj e).symm)]; exact h.g4
  obtain ⟨a', c', o', H3, q1, q2, q3, q4, q5, q6⟩ := stk_push T34 k2 (v := .int .i64 (u : Int)) rfl (prot := H0.length) (fun id e => (h.bo id e).1) (by omega) (by omega) (L := 1 * 1) rfl (el := 1) rfl
  refine ⟨H2, a', c', o', H3, by rw [hH2]; exact arr_put h.g5 (setL_len _) h.b5 (setL_len _) (setL_cell _), st2, q1, ⟨st2.over q3 (fun id e => (h.bo id e).1), ?_, h.b5, ?_, h.n45, ?_, fun id e => ?_⟩⟩
  · rw [q3.2 _ (by omega) (fun e => (h.bo _ e).2.1 rfl)]; exact g2
  · rw [q3.2 _ (by omega) (fun e => (h.bo _ e).2.2 rfl)]; exact g42
  · rw [il_snoc, List.length_append]; exact q2
  · cases e
    refine ⟨q4, fun e2 => ?_, fun e2 => ?_⟩
    · cases ho : o6 with
      | none => have := q5 ho; omega
      | some k => have := q6 k ho; exact (h.bo k ho).2.1 (by omega)
    · cases ho : o6 with
      | none => have := q5 ho; omega
      | some k => have := q6 k ho; exact (h.bo k ho).2.2 (by omega)
end Go.Proofs.YtkemihfaohkoeaaDoor.Am11d
namespace Go.Proofs.YtkemihfaohkoeaaDoor.Am11d
open Go Go.Proofs.YtkemihfaohkoeaaDoor.Am
/-! Shortest ways: how far it is from each vertex to one. -/
/-- A way of just so many edges. -/
def W (G : List (List Int)) (t : Nat) : Nat → Nat → Prop
  | 0, u => u = t
  | k + 1, u => ∃ w, w ∈ sc G u ∧ W G t k w
theorem least_ex {p : Nat → Prop} (h : ∃ k, p k) : ∃ k, p k ∧ ∀ j, p j → k ≤ j := by
  obtain ⟨k, hk⟩ := h
  induction k using Nat.strongRecOn with
  | ind k ih =>
    by_cases h2 : ∃ j, j < k ∧ p j
    · obtain ⟨j, h3, h4⟩ := h2
      exact ih j h3 h4
    · exact ⟨k, hk, fun j hj => by
        rcases Nat.lt_or_ge j k with h3 | h3
        · exact absurd ⟨j, h3, hj⟩ h2
        · exact h3⟩
/-- How far it is, and 1; 0: there is no way. -/
noncomputable def dt (G : List (List Int)) (t u : Nat) : Nat :=
  @dite _ (∃ k, W G t k u) (Classical.propDecidable _) (fun h => Classical.choose (least_ex h) + 1) (fun _ => 0)
theorem dt_spec {G : List (List Int)} {t u k : Nat} (h : W G t k u) : 0 < dt G t u ∧ W G t (dt G t u - 1) u ∧ ∀ j, W G t j u → dt G t u ≤ j + 1 := by
  have he : ∃ k, W G t k u := ⟨k, h⟩
  have hs := Classical.choose_spec (least_ex he)
  have : dt G t u = Classical.choose (least_ex he) + 1 := by unfold dt; rw [dif_pos he]
  rw [this]
  refine ⟨by omega, by rw [Nat.add_sub_cancel]; exact hs.1, fun j hj => by have := hs.2 j hj; omega⟩
theorem dt_pos {G : List (List Int)} {t u : Nat} (h : 0 < dt G t u) : ∃ k, W G t k u := by
  unfold dt at h
  split at h
  · assumption
  · omega
theorem dt_eq {G : List (List Int)} {t u n : Nat} (hn : 0 < n) (h1 : W G t (n - 1) u) (h2 : ∀ k, W G t k u → n - 1 ≤ k) : dt G t u = n := by
  obtain ⟨a, b, c⟩ := dt_spec h1
  have := c _ h1
  have := h2 _ b
  omega
/-! ### The search -/
def setF (F : Nat → Nat) (u c : Nat) : Nat → Nat := fun x => if x = u then c else F x
def mk_ (F : Nat → Nat) : Nat → Bool := fun x => decide (0 < F x)
structure BI (G : List (List Int)) (t : Nat) (F : Nat → Nat) (Q : List Nat) (i : Nat) : Prop where
  ft : F t = 1
  q : ∀ u, u ∈ Q ↔ 0 < F u
  low : ∀ u ∈ Q, u < G.length
  ex : ∀ u, 0 < F u → W G t (F u - 1) u ∧ ∀ k, W G t k u → F u - 1 ≤ k
  so : ∀ a b, a ≤ b → b < Q.length → F (Q.getD a 0) ≤ F (Q.getD b 0)
  up : i < Q.length → ∀ b, b < Q.length → F (Q.getD b 0) ≤ F (Q.getD i 0) + 1
  don : ∀ j, j < i → j < Q.length → ∀ u, Q.getD j 0 ∈ sc G u → 0 < F u
  cnt : Q.length + un G.length (mk_ F) ≤ G.length
  fl : ∀ b, b < Q.length → F (Q.getD b 0) ≤ b + 1
/-- All that is no farther than the one that is looked at was met. -/
theorem BI.near {G : List (List Int)} {t : Nat} {F : Nat → Nat} {Q : List Nat} {i : Nat} (h : BI G t F Q i) (hi : i < Q.length) : ∀ k u, W G t k u → k + 1 ≤ F (Q.getD i 0) → 0 < F u
  | 0, u, hw, _ => by
    have : u = t := hw
    subst this
    rw [h.ft]; omega
  | k + 1, u, hw, hk => by
    obtain ⟨w, h1, h2⟩ := hw
    have hF := h.near hi k w h2 (by omega)
    have h3 := (h.ex w hF).2 k h2
    obtain ⟨j, hj⟩ := List.getElem?_of_mem ((h.q w).2 hF)
    have hjl := (List.getElem?_eq_some_iff.1 hj).1
    have hjd : Q.getD j 0 = w := by rw [List.getD_eq_getElem?_getD, hj]; rfl
    have hji : j < i := by
      rcases Nat.lt_or_ge j i with h4 | h4
      · exact h4
      · have := h.so i j h4 hjl
        rw [hjd] at this
        omega
    exact h.don j hji hjl u (by rw [hjd]; exact h1)
theorem getD_snoc_lt {Q : List Nat} {u a : Nat} (h : a < Q.length) : (Q ++ [u]).getD a 0 = Q.getD a 0 := by
  rw [List.getD_eq_getElem?_getD, List.getElem?_append_left h, ← List.getD_eq_getElem?_getD]
theorem getD_snoc_eq {Q : List Nat} {u : Nat} : (Q ++ [u]).getD Q.length 0 = u := by
  rw [List.getD_eq_getElem?_getD, List.getElem?_append_right (Nat.le_refl _), Nat.sub_self]; rfl
theorem BI.meet {G : List (List Int)} {t : Nat} {F : Nat → Nat} {Q : List Nat} {i u : Nat} (h : BI G t F Q i) (hi : i < Q.length) (hu : u < G.length) (hF : F u = 0) (he : Q.getD i 0 ∈ sc G u) :
    BI G t (setF F u (F (Q.getD i 0) + 1)) (Q ++ [u]) i := by
  have hw : 0 < F (Q.getD i 0) := (h.q _).1 (by rw [List.getD_eq_getElem?_getD, List.getElem?_eq_getElem hi]; exact List.getElem_mem hi)
  have hne : ∀ x, 0 < F x → x ≠ u := fun x hx e => by subst e; omega
  have old : ∀ x, 0 < F x → setF F u (F (Q.getD i 0) + 1) x = F x := fun x hx => by unfold setF; rw [if_neg (hne x hx)]
  have new : setF F u (F (Q.getD i 0) + 1) u = F (Q.getD i 0) + 1 := by unfold setF; rw [if_pos rfl]
  have pos : ∀ x, 0 < setF F u (F (Q.getD i 0) + 1) x ↔ 0 < F x ∨ x = u := fun x => by
    unfold setF
    by_cases e : x = u
    · rw [if_pos e]; exact ⟨fun _ => .inr e, fun _ => by omega⟩
    · rw [if_neg e]; exact ⟨.inl, fun h => h.resolve_right e⟩
  have memF : ∀ a, a < Q.length → 0 < F (Q.getD a 0) := fun a ha => (h.q _).1 (by rw [List.getD_eq_getElem?_getD, List.getElem?_eq_getElem ha]; exact List.getElem_mem ha)
  refine ⟨by rw [old t (by rw [h.ft]; omega)]; exact h.ft, fun x => ?_, fun x hx => ?_, fun x hx => ?_, fun a b hab hb => ?_, fun _ b hb => ?_, fun j hj hjl x hx => ?_, ?_, fun b hb => ?_⟩
  · rw [pos, List.mem_append, List.mem_singleton, h.q]
  · rcases List.mem_append.1 hx with hx | hx
    · exact h.low x hx
    · rw [List.mem_singleton.1 hx]; exact hu
  · rcases (pos x).1 hx with hx | rfl
    · rw [old x hx]; exact h.ex x hx
    · rw [new, Nat.add_sub_cancel]
      refine ⟨?_, fun k hk => ?_⟩
      · have h1 := (h.ex _ hw).1
        rw [show F (Q.getD i 0) = F (Q.getD i 0) - 1 + 1 by omega]
        exact ⟨_, he, h1⟩
      · rcases Nat.lt_or_ge k (F (Q.getD i 0)) with h2 | h2
        · have := h.near hi k _ hk (by omega)
          omega
        · exact h2
  · rw [List.length_append, List.length_singleton] at hb
    by_cases e : b = Q.length
    · subst e
      rw [getD_snoc_eq, new]
      by_cases e2 : a = Q.length
      · subst e2; rw [getD_snoc_eq, new]; exact Nat.le_refl _
      · rw [getD_snoc_lt (by omega), old _ (memF a (by omega))]
        exact h.up hi a (by omega)
    · rw [getD_snoc_lt (by omega), getD_snoc_lt (by omega), old _ (memF a (by omega)), old _ (memF b (by omega))]
      exact h.so a b hab (by omega)
  · rw [List.length_append, List.length_singleton] at hb
    rw [getD_snoc_lt hi, old _ hw]
    by_cases e : b = Q.length
    · subst e; rw [getD_snoc_eq, new]; exact Nat.le_refl _
    · rw [getD_snoc_lt (by omega), old _ (memF b (by omega))]
      exact h.up hi b (by omega)
  · rw [getD_snoc_lt (by omega)] at hx
    rw [pos]
    exact .inl (h.don j hj (by omega) x hx)
  · have e1 : mk_ (setF F u (F (Q.getD i 0) + 1)) = addS (mk_ F) u := by
      funext x
      unfold mk_ addS
      rw [Bool.eq_iff_iff, Bool.or_eq_true, decide_eq_true_eq, decide_eq_true_eq, decide_eq_true_eq]
      exact pos x
    have h1 := un_add (S := mk_ F) (u := u) (by unfold mk_; rw [decide_eq_false (by omega)]) G.length
    rw [if_pos hu] at h1
    have := h.cnt
    rw [List.length_append, List.length_singleton, e1]
    omega
  · rw [List.length_append, List.length_singleton] at hb
    by_cases e : b = Q.length
    · subst e
      rw [getD_snoc_eq, new]
      have := h.fl i hi
      omega
    · rw [getD_snoc_lt (by omega), old _ (memF b (by omega))]
      exact h.fl b (by omega)
theorem BI.start {G : List (List Int)} {t : Nat} (ht : t < G.length) : BI G t (setF (fun _ => 0) t 1) [t] 0 := by
  have e : ∀ x, setF (fun _ => 0) t 1 x = if x = t then 1 else 0 := fun x => rfl
  refine ⟨by rw [e, if_pos rfl], fun x => ?_, fun x hx => by rw [List.mem_singleton.1 hx]; exact ht, fun x hx => ?_, fun a b hab hb => ?_, fun _ b hb => ?_, fun j hj => (by omega), ?_, fun b hb => ?_⟩
  · rw [List.mem_singleton, e]
    split
    · rename_i h; exact ⟨fun _ => by omega, fun _ => h⟩
    · rename_i h; exact ⟨fun h2 => absurd h2 h, fun h2 => by omega⟩
  · rw [e] at hx ⊢
    split at hx
    · rename_i h
      subst h
      rw [if_pos rfl]
      exact ⟨rfl, fun k _ => by omega⟩
    · omega
  · rw [List.length_singleton] at hb
    have h1 : b = 0 := by omega
    have h2 : a = 0 := by omega
    subst h1; subst h2; exact Nat.le_refl _
  · rw [List.length_singleton] at hb
    have h1 : b = 0 := by omega
    subst h1; omega
  · have e1 : mk_ (setF (fun _ => 0) t 1) = addS noS t := by
      funext x
      unfold mk_ addS noS
      rw [e]
      by_cases h : x = t
      · simp [h]
      · simp [h]
    have h1 := un_add (S := noS) (u := t) rfl G.length
    rw [if_pos ht] at h1
    have := un_le G.length noS
    rw [e1, List.length_singleton]
    omega
  · rw [List.length_singleton] at hb
    have h1 : b = 0 := by omega
    subst h1
    show setF (fun _ => 0) t 1 t ≤ 1
    rw [e, if_pos rfl]; omega
/-- The one that was looked at is through. -/
theorem BI.next {G : List (List Int)} {t : Nat} {F : Nat → Nat} {Q : List Nat} {i : Nat} (h : BI G t F Q i) (hi : i < Q.length) (hd : ∀ u, Q.getD i 0 ∈ sc G u → 0 < F u) : BI G t F Q (i + 1) := by
  refine ⟨h.ft, h.q, h.low, h.ex, h.so, fun h2 b hb => ?_, fun j hj hjl u hu => ?_, h.cnt, h.fl⟩
  · have h1 := h.up hi b hb
    have := h.so i (i + 1) (by omega) h2; omega
  · by_cases e : j = i
    · subst e; exact hd u hu
    · exact h.don j (by omega) hjl u hu
/-- What the search has found. -/
structure FarOK (G : List (List Int)) (t f : Nat) (F : Nat → Nat) : Prop where
  ex : ∀ u, 0 < F u → F u = dt G t u
  near : ∀ u, 0 < dt G t u → dt G t u ≤ dt G t f → 0 < F u
  ff : F f = dt G t f
  bd : F f ≤ G.length
  all : ∀ u, F u ≤ G.length
theorem BI.exact {G : List (List Int)} {t : Nat} {F : Nat → Nat} {Q : List Nat} {i : Nat} (h : BI G t F Q i) (u : Nat) (hu : 0 < F u) : F u = dt G t u := by
  obtain ⟨a, b⟩ := h.ex u hu
  exact (dt_eq hu a b).symm
theorem BI.bd {G : List (List Int)} {t : Nat} {F : Nat → Nat} {Q : List Nat} {i : Nat} (h : BI G t F Q i) (u : Nat) : F u ≤ G.length := by
  rcases Nat.eq_zero_or_pos (F u) with h0 | h0
  · omega
  · obtain ⟨j, hj⟩ := List.getElem?_of_mem ((h.q u).2 h0)
    have hjl := (List.getElem?_eq_some_iff.1 hj).1
    have h1 := h.fl j hjl
    rw [List.getD_eq_getElem?_getD, hj] at h1
    have h2 := h.cnt
    simp only [Option.getD_some] at h1
    omega
theorem BI.done {G : List (List Int)} {t : Nat} (f : Nat) {F : Nat → Nat} {Q : List Nat} {i : Nat} (h : BI G t F Q i) (hi : Q.length ≤ i) : FarOK G t f F := by
  have all : ∀ k u, W G t k u → 0 < F u := by
    intro k
    induction k with
    | zero => intro u hu; have : u = t := hu; subst this; rw [h.ft]; omega
    | succ k ih =>
      intro u hu
      obtain ⟨w, h1, h2⟩ := hu
      obtain ⟨j, hj⟩ := List.getElem?_of_mem ((h.q w).2 (ih w h2))
      have hjl := (List.getElem?_eq_some_iff.1 hj).1
      exact h.don j (by omega) hjl u (by rw [List.getD_eq_getElem?_getD, hj]; exact h1)
  refine ⟨h.exact, fun u h1 _ => ?_, ?_, h.bd f, h.bd⟩
  · obtain ⟨k, hk⟩ := dt_pos h1
    exact all k u hk
  · rcases Nat.eq_zero_or_pos (dt G t f) with h0 | h0
    · rcases Nat.eq_zero_or_pos (F f) with h1 | h1
      · rw [h0, h1]
      · exact h.exact f h1
    · obtain ⟨k, hk⟩ := dt_pos h0
      exact h.exact f (all k f hk)

/-! ### The way -/
/-- The least that will do. -/
def leastL (p : Nat → Bool) : List Nat → Nat → Nat
  | [], m => m
  | u :: l, m => leastL p l (if p u then min u m else m)
/-- The next one on the way. -/
noncomputable def nx (G : List (List Int)) (t v : Nat) : Nat := leastL (fun u => decide (dt G t u + 1 = dt G t v ∧ 0 < dt G t u)) (sc G v) G.length
noncomputable def pth (G : List (List Int)) (t : Nat) : Nat → Nat → List Nat
  | 0, v => [v]
  | k + 1, v => v :: pth G t k (nx G t v)
end Go.Proofs.YtkemihfaohkoeaaDoor.Am11d
set_option linter.unusedVariables false
open Go Go.Proofs.YtkemihfaohkoeaaDoor.Am
namespace Go.Proofs.YtkemihfaohkoeaaDoor.Am11d
end Go.Proofs.YtkemihfaohkoeaaDoor.Am11d
namespace Go.Proofs.YtkemihfaohkoeaaDoor.Am11d
open Go Go.Proofs.YtkemihfaohkoeaaDoor.Am
def farL (F : Nat → Nat) (N : Nat) : List Nat := (List.range N).map F
theorem farL_get {F : Nat → Nat} {N u : Nat} (h : u < N) : (il (nl (farL F N)))[u]? = some (.int .i64 ((F u : Nat) : Int)) := by
  unfold il nl farL
  rw [List.getElem?_map, List.getElem?_map, List.getElem?_map, List.getElem?_range h]; rfl
theorem farL_set {F : Nat → Nat} {N u : Nat} (c : Nat) (h : u < N) : (nl (farL F N)).set u (c : Int) = nl (farL (setF F u c) N) := by
  unfold nl farL
  apply List.ext_getElem?
  intro x
  by_cases e : x = u
  · subst e
    rw [List.getElem?_set_self (by simp; exact h), List.getElem?_map, List.getElem?_map, List.getElem?_range h]
    simp [setF]
  · rw [List.getElem?_set_ne (fun h => e h.symm), List.getElem?_map, List.getElem?_map, List.getElem?_map, List.getElem?_map]
    by_cases hx : x < N
    · rw [List.getElem?_range hx]; simp [setF, e]
    · rw [List.getElem?_eq_none (by simp; omega)]; rfl
theorem farL_len (F : Nat → Nat) (N : Nat) : (nl (farL F N)).length = N := by simp [nl, farL]
/-- The search's memory. -/
structure PS (H0 H : AHeap) (N : Nat) (x10 x11 x12 : Value) (o10 o12 : Nat) (r : Nat → Value) (F : Nat → Nat) (Q : List Nat) (T : Nat → List Nat) : Prop where
  st : Stay none H0 H
  far : Own H 3 1 x10 (some o10) N (il (nl (farL F N)))
  q : Own H 3 1 x12 (some o12) Q.length (il (nl Q))
  b10 : H0.length ≤ o10
  b12 : H0.length ≤ o12
  ne : o10 ≠ o12
  bk : ∃ cs, Rd H 24 1 x11 N cs ∧ ∀ j, j < N → cs[j]? = some (r j) ∧ Rd H 3 1 (r j) (T j).length (il (nl (T j)))
  sf : ∀ j, j < N → ∀ id off L n c, r j = .slice (some ⟨id, off, some L⟩) n c → id ≠ o10 ∧ id ≠ o12
theorem PS.meet {H0 H : AHeap} {N : Nat} {x10 x11 x12 : Value} {o10 o12 : Nat} {r : Nat → Value} {F : Nat → Nat} {Q : List Nat} {T : Nat → List Nat} (h : PS H0 H N x10 x11 x12 o10 o12 r F Q T) {u : Nat} (hu : u < N) (c : Nat) (hQ : Q.length ≤ 512) :
    ∃ id L H2 a' c' H3, aindexAddr cfg.P 24 x10 (.int .i64 (u : Nat)) = some (.pointer (some ⟨id, u, some L⟩)) ∧ setCells H H0.length id L u [.int .i64 (c : Int)] = some H2 ∧
      aappend cfg.P H0.length true 24 24 x12 (.slice (some ⟨H2.length, 0, some (1 * 1)⟩) 1 1) (H2 ++ [wo [.int .i64 (u : Int)] 3]) = some (.slice a' (Q.length + 1) c', H3) ∧
      PS H0 H3 N x10 x11 (.slice a' (Q.length + 1) c') o10 o12 r (setF F u c) (Q ++ [u]) T := by
  obtain ⟨id, H2, e, s1, s2, s3, s4, s5⟩ := own_setS T34 h.far (i := u) (j := 0) hu (vs := [.int .i64 (c : Int)]) (by simp) rfl (prot := H0.length) (fun id e => by cases e; exact h.b10)
  cases e
  rw [put_il _ (by rw [farL_len]; exact hu), farL_set c hu] at s3
  rw [Nat.mul_one] at s1
  rw [Nat.mul_one, Nat.add_zero] at s2
  have hst2 := h.st.over s4 (fun id e => by cases e; exact h.b10)
  have hq2 := h.q.stay s4 (fun id e1 e2 => h.ne (by rw [← Option.some.inj e1] at e2; exact Option.some.inj e2))
  have hl2 := hst2.1
  obtain ⟨a', c', o', H3, q1, q2, q3, q4, q5, q6⟩ := own_app T34 hq2 (ecs := [.int .i64 (u : Int)]) rfl rfl (prot := H0.length) (room := true) (fun id e => by cases e; exact h.b12) (by omega) (by omega) (L := 1 * 1) rfl (el := [Value.int .i64 (u : Int)].length) rfl
  have e12 := q6 o12 rfl
  subst e12
  have hil : il (nl Q) ++ [Value.int .i64 (u : Int)] = il (nl (Q ++ [u])) := by simp [il, nl]
  rw [hil] at q2
  refine ⟨_, _, H2, a', c', H3, s1, s2, q1, ⟨hst2.over q3 (fun id e => by cases e; exact h.b12), ?_, by rw [List.length_append]; exact q2, h.b10, h.b12, h.ne, ?_, h.sf⟩⟩
  · exact s3.stay q3 (fun id e1 e2 => h.ne (by rw [← Option.some.inj e1] at e2; exact (Option.some.inj e2).symm))
  · obtain ⟨cs, c1, c2⟩ := h.bk
    obtain ⟨_, _, _, w1, _, g1⟩ := h.far
    obtain ⟨_, _, _, w2, _, g2⟩ := hq2
    refine ⟨cs, (c1.stayE g1 (by decide) s4).stayE g2 (by decide) q3, fun j hj => ?_⟩
    obtain ⟨d1, d2⟩ := c2 j hj
    exact ⟨d1, (d2.stayNe s4 (fun id off L n c e1 e2 => (h.sf j hj id off L n c e1).1 (Option.some.inj e2).symm)).stayNe q3 (fun id off L n c e1 e2 => (h.sf j hj id off L n c e1).2 (Option.some.inj e2).symm)⟩

end Go.Proofs.YtkemihfaohkoeaaDoor.Am11d
set_option linter.unusedVariables false
open Go Go.Proofs.YtkemihfaohkoeaaDoor.Am
namespace Go.Proofs.YtkemihfaohkoeaaDoor.Am11d
theorem f15_F_0 {x0a : Option Addr} {x0n x0c : Nat} {H : AHeap} {prot : Nat} {z4a : Option Addr} {z4n z4c : Nat} {H1 : AHeap} (rv : Value) (rH : AHeap) (h1 : lpInf (lpOf cfg a15 0 prot H) ([Value.slice x0a x0n x0c, Value.int .i64 (if 512 < (↑x0n : Int) then 512 else (↑x0n : Int)), Value.slice none 0 0, Value.int .i64 0], H) = some (Ex.exit 0, [Value.slice z4a z4n z4c], H1)) (h2 : pfin a15 H [Value.slice z4a z4n z4c] H1 = (rv, rH)) : callInf cfg 15 [.slice x0a x0n x0c] prot H = some (rv, rH) :=
  fn_of2 a15 [.e, .e, .lo (.exit 0, [.slice z4a z4n z4c], H1)] (ai h1 h2) (by kernel_rfl) rfl
theorem f15_L0_0 {x0a : Option Addr} {x0n x0c : Nat} {x3 : Int} {x4a : Option Addr} {x4n x4c : Nat} {x5 : Int} {H0 : AHeap} {prot : Nat} {H : AHeap} {z0a : Option Addr} {z0n z0c : Nat} {z3 : Int} {z4a : Option Addr} {z4n z4c : Nat} {z5 : Int} {z6a : Option Addr} {z6n z6c : Nat} {H2 : AHeap} {x44a : Option Addr} {x44n x44c : Nat} {H3 : AHeap} (h1 : x5 < x3) (h2 : lpInf (lpOf cfg a15 1 prot H0) ([Value.slice x0a x0n x0c, Value.int .i64 x3, Value.slice x4a x4n x4c, Value.int .i64 x5, Value.slice none 0 0, Value.int .i64 0], H) = some (Ex.exit 2, [Value.slice z0a z0n z0c, Value.int .i64 z3, Value.slice z4a z4n z4c, Value.int .i64 z5, Value.slice z6a z6n z6c], H2)) (h3 : aappend cfg.P (List.length H0) true 22 22 (Value.slice z4a z4n z4c) (Value.slice (some ⟨List.length H2, 0, some (1 * 1)⟩) 1 1) (H2 ++ [wo [Value.slice z6a z6n z6c] 24]) = some (Value.slice x44a x44n x44c, H3)) (h4 : Fit .i64 (z5 + 1)) : lpOf cfg a15 0 prot H0 ([.slice x0a x0n x0c, .int .i64 x3, .slice x4a x4n x4c, .int .i64 x5], H) = some (Sum.inl ([Value.slice z0a z0n z0c, Value.int .i64 z3, Value.slice x44a x44n x44c, Value.int .i64 (z5 + 1)], H3)) :=
  lp_of2 [.e, .b true, .lo (.exit 2, [.slice z0a z0n z0c, .int .i64 z3, .slice z4a z4n z4c, .int .i64 z5, .slice z6a z6n z6c], H2), .e, .r (.slice x44a x44n x44c) H3, .e] (ai (decide_eq_true h1) (ai h2 (ai h3 (ai h4 (Eq.refl (Sum.inl ([Value.slice z0a z0n z0c, Value.int .i64 z3, Value.slice x44a x44n x44c, Value.int .i64 (z5 + 1)], H3) : LS ⊕ LO)))))) (by kernel_rfl)
theorem f15_L0_1 {x0a : Option Addr} {x0n x0c : Nat} {x3 : Int} {x4a : Option Addr} {x4n x4c : Nat} {x5 : Int} {H0 : AHeap} {prot : Nat} {H : AHeap} (h1 : ¬(x5 < x3)) : lpOf cfg a15 0 prot H0 ([.slice x0a x0n x0c, .int .i64 x3, .slice x4a x4n x4c, .int .i64 x5], H) = some (Sum.inr (Ex.exit 0, [Value.slice x4a x4n x4c], H)) :=
  lp_of2 [.e, .b false] (ai (decide_eq_false h1) (Eq.refl (Sum.inr (Ex.exit 0, [Value.slice x4a x4n x4c], H) : LS ⊕ LO))) (by kernel_rfl)
theorem f15_L1_0 {x0a : Option Addr} {x0n x0c : Nat} {x3 : Int} {x4a : Option Addr} {x4n x4c : Nat} {x5 : Int} {x6a : Option Addr} {x6n x6c : Nat} {x7 : Int} {H0 : AHeap} {prot : Nat} {H : AHeap} {x19p x19o x19l : Nat} {x20a : Option Addr} {x20n x20c x28p x28o x28l : Nat} {x29a : Option Addr} {x29n x29c x31p x31o x31l : Nat} {x32 : Int} {x40a : Option Addr} {x40n x40c : Nat} {H2 : AHeap} (h1 : aindexAddr cfg.P 22 (Value.slice x0a x0n x0c) (Value.int .i64 x5) = some (Value.pointer (some ⟨x19p, x19o, some x19l⟩))) (h2 : getCells H x19p x19l x19o 1 = some [Value.slice x20a x20n x20c]) (h3 : x7 < (↑x20n : Int)) (h4 : aindexAddr cfg.P 22 (Value.slice x0a x0n x0c) (Value.int .i64 x5) = some (Value.pointer (some ⟨x28p, x28o, some x28l⟩))) (h5 : getCells H x28p x28l x28o 1 = some [Value.slice x29a x29n x29c]) (h6 : aindexAddr cfg.P 24 (Value.slice x29a x29n x29c) (Value.int .i64 x7) = some (Value.pointer (some ⟨x31p, x31o, some x31l⟩))) (h7 : getCells H x31p x31l x31o 1 = some [Value.int .i64 x32]) (h8 : x3 ≠ 0) (h9 : Fit .i64 (x32.tmod x3 + x3)) (h10 : aappend cfg.P (List.length H0) true 24 24 (Value.slice x6a x6n x6c) (Value.slice (some ⟨List.length H, 0, some (1 * 1)⟩) 1 1) (H ++ [wo [Value.int .i64 ((x32.tmod x3 + x3).tmod x3)] 3]) = some (Value.slice x40a x40n x40c, H2)) (h11 : Fit .i64 (x7 + 1)) : lpOf cfg a15 1 prot H0 ([.slice x0a x0n x0c, .int .i64 x3, .slice x4a x4n x4c, .int .i64 x5, .slice x6a x6n x6c, .int .i64 x7], H) = some (Sum.inl ([Value.slice x0a x0n x0c, Value.int .i64 x3, Value.slice x4a x4n x4c, Value.int .i64 x5, Value.slice x40a x40n x40c, Value.int .i64 (x7 + 1)], H2)) :=
  lp_of2 [.v (.pointer (some ⟨x19p, x19o, some x19l⟩)), .v (.slice x20a x20n x20c), .e, .e, .b true, .v (.pointer (some ⟨x28p, x28o, some x28l⟩)), .v (.slice x29a x29n x29c), .v (.pointer (some ⟨x31p, x31o, some x31l⟩)), .v (.int .i64 x32), .e, .e, .e, .e, .r (.slice x40a x40n x40c) H2, .e] (ai h1 (ai h2 (ai (decide_eq_true h3) (ai h4 (ai h5 (ai h6 (ai h7 (ai h8 (ai h9 (ai h8 (ai h10 (ai h11 (Eq.refl (Sum.inl ([Value.slice x0a x0n x0c, Value.int .i64 x3, Value.slice x4a x4n x4c, Value.int .i64 x5, Value.slice x40a x40n x40c, Value.int .i64 (x7 + 1)], H2) : LS ⊕ LO)))))))))))))) (by kernel_rfl)
theorem f15_L1_1 {x0a : Option Addr} {x0n x0c : Nat} {x3 : Int} {x4a : Option Addr} {x4n x4c : Nat} {x5 : Int} {x6a : Option Addr} {x6n x6c : Nat} {x7 : Int} {H0 : AHeap} {prot : Nat} {H : AHeap} {x19p x19o x19l : Nat} {x20a : Option Addr} {x20n x20c : Nat} (h1 : aindexAddr cfg.P 22 (Value.slice x0a x0n x0c) (Value.int .i64 x5) = some (Value.pointer (some ⟨x19p, x19o, some x19l⟩))) (h2 : getCells H x19p x19l x19o 1 = some [Value.slice x20a x20n x20c]) (h3 : ¬(x7 < (↑x20n : Int))) : lpOf cfg a15 1 prot H0 ([.slice x0a x0n x0c, .int .i64 x3, .slice x4a x4n x4c, .int .i64 x5, .slice x6a x6n x6c, .int .i64 x7], H) = some (Sum.inr (Ex.exit 2, [Value.slice x0a x0n x0c, Value.int .i64 x3, Value.slice x4a x4n x4c, Value.int .i64 x5, Value.slice x6a x6n x6c], H)) :=
  lp_of2 [.v (.pointer (some ⟨x19p, x19o, some x19l⟩)), .v (.slice x20a x20n x20c), .e, .e, .b false] (ai h1 (ai h2 (ai (decide_eq_false h3) (Eq.refl (Sum.inr (Ex.exit 2, [Value.slice x0a x0n x0c, Value.int .i64 x3, Value.slice x4a x4n x4c, Value.int .i64 x5, Value.slice x6a x6n x6c], H) : LS ⊕ LO))))) (by kernel_rfl)
end Go.Proofs.YtkemihfaohkoeaaDoor.Am11d
namespace Go.Proofs.YtkemihfaohkoeaaDoor.Am11d
open Go Go.Proofs.YtkemihfaohkoeaaDoor.Am
/-- Lists leave room for two more. -/
def Short8 (G : List (List Int)) : Prop := G.length * 24 + 48 ≤ 140737488355328 ∧ ∀ l ∈ G, l.length * 8 + 16 ≤ 140737488355328
def wrapI (n : Nat) (x : Int) : Int := (x.tmod n + n).tmod n
theorem wrapI_range {n : Nat} (hn : 0 < n) (x : Int) : 0 ≤ wrapI n x ∧ wrapI n x < n := by
  unfold wrapI
  have h1 : -(n : Int) < x.tmod n := Int.lt_tmod_of_pos x (by omega)
  exact ⟨Int.tmod_nonneg _ (by omega), Int.tmod_lt_of_pos _ (by omega)⟩
/-- A graph out of any lists. -/
def wit (G : List (List Int)) : List (List Int) := (G.take 512).map fun l => l.map (wrapI (min 512 G.length))
theorem wit_len (G : List (List Int)) : (wit G).length = min 512 G.length := by unfold wit; rw [List.length_map, List.length_take]
theorem loop17i {G : List (List Int)} {n : Nat} (hn : 0 < n) (hn5 : n ≤ 512) {H0 G0 : AHeap} (hG0 : H0.length ≤ G0.length) {x0 x4 : Value} (hg : Gr G0 x0 G) {prot v : Nat} (hv : v < G.length) (hl : G[v].length * 8 + 16 ≤ 140737488355328) (hx4 : ∃ a m c, x4 = .slice a m c) : ∀ (d i : Nat) (x6 : Value) (o6 : Option Nat) (H : AHeap), i + d = G[v].length → Stay none G0 H → Own H 3 1 x6 o6 i (il ((G[v].take i).map (wrapI n))) → (∀ id, o6 = some id → G0.length ≤ id) →
    ∃ x' o' H', lpInf (lpOf cfg a15 1 prot H0) ([x0, .int .i64 n, x4, .int .i64 v, x6, .int .i64 i], H) = some (.exit 2, [x0, .int .i64 n, x4, .int .i64 v, x'], H') ∧ Own H' 3 1 x' o' G[v].length (il (G[v].map (wrapI n))) ∧ (∀ id, o' = some id → G0.length ≤ id) ∧ Stay none G0 H'
  | 0, i, x6, o6, H, hi, hst, hx, ho => by
    obtain ⟨id, L, r, p, q, hr⟩ := (hg.stay hst).row hv
    have he : i = G[v].length := by omega
    have hx0 := hx
    subst he
    rw [List.take_length] at hx0
    refine ⟨x6, o6, H, ?_, hx0, ho, hst⟩
    obtain ⟨_, _, rfl⟩ := hg.len
    obtain ⟨_, _, _, rfl⟩ := hx4
    obtain ⟨_, _, rfl⟩ := hr.len
    obtain ⟨_, _, rfl⟩ := hx.len
    exact lp_last (f15_L1_1 p q (by omega))
  | d + 1, i, x6, o6, H, hi, hst, hx, ho => by
    have hil : i < G[v].length := by omega
    obtain ⟨id, L, r, p, q, hr⟩ := (hg.stay hst).row hv
    obtain ⟨id2, L2, p2, q2⟩ := rd_at T34 hr (il_get hil)
    have hl1 := hst.1
    obtain ⟨a', c', o', H2, s1, s2, s3, s4, s5, s6⟩ := own_app T34 hx (ecs := [.int .i64 (wrapI n G[v][i])]) rfl rfl (prot := H0.length) (room := true) (fun id h => by have := ho id h; omega) (by omega) (by omega) (L := 1 * 1) rfl (el := [Value.int .i64 (wrapI n G[v][i])].length) rfl
    have e1 : il ((G[v].take i).map (wrapI n)) ++ [.int .i64 (wrapI n G[v][i])] = il ((G[v].take (i + 1)).map (wrapI n)) := by
      rw [List.take_add_one, List.getElem?_eq_getElem hil, List.map_append]
      unfold il
      rw [List.map_append]
      rfl
    rw [e1] at s2
    have ho' : G0.length ≤ o' := by
      cases hh : o6 with
      | none => have := s5 hh; omega
      | some j => have := s6 j hh; have := ho j hh; omega
    obtain ⟨x', o2, H', z1, z2, z3, z4⟩ := loop17i hn hn5 hG0 hg (prot := prot) hv hl hx4 d (i + 1) _ (some o') H2 (by omega) (hst.over s3 ho) s2 (fun id h => by cases h; exact ho')
    refine ⟨x', o2, H', ?_, z2, z3, z4⟩
    have m1 : -(n : Int) < G[v][i].tmod n := Int.lt_tmod_of_pos _ (by omega)
    have m2 := Int.tmod_lt_of_pos G[v][i] (show (0 : Int) < n by omega)
    obtain ⟨_, _, rfl⟩ := hg.len
    obtain ⟨_, _, _, rfl⟩ := hx4
    obtain ⟨_, _, rfl⟩ := hr.len
    obtain ⟨_, _, rfl⟩ := hx.len
    exact lp_next (f15_L1_0 p q (by omega) p q p2 q2 (by omega) (fit64 (by omega) (by omega)) s1 (fit64 (by omega) (by omega))) z1

theorem loop17o {G : List (List Int)} {n : Nat} (hn : n = min 512 G.length) {H0 : AHeap} {x0 : Value} (hg : Gr H0 x0 G) (hs : Short8 G) {prot : Nat} : ∀ (d v : Nat) (x4 : Value) (o4 : Option Nat) (cs : List Value) (H : AHeap), v + d = n → Stay none H0 H → Own H 24 1 x4 o4 v cs → (∀ id, o4 = some id → H0.length ≤ id) →
    (∀ (j : Nat) (l : List Int), j < v → G[j]? = some l → ∃ r, cs[j]? = some r ∧ Rd H 3 1 r l.length (il (l.map (wrapI n))) ∧ ∀ id off L m c, r = .slice (some ⟨id, off, some L⟩) m c → o4 ≠ some id) →
    ∃ x' o' cs' H', lpInf (lpOf cfg a15 0 prot H0) ([x0, .int .i64 n, x4, .int .i64 v], H) = some (.exit 0, [x'], H') ∧ Stay none H0 H' ∧ Own H' 24 1 x' o' n cs' ∧ (∀ id, o' = some id → H0.length ≤ id) ∧
      (∀ (j : Nat) (l : List Int), j < n → G[j]? = some l → ∃ r, cs'[j]? = some r ∧ Rd H' 3 1 r l.length (il (l.map (wrapI n))))
  | 0, v, x4, o4, cs, H, hv, hst, hx, ho, hr => by
    have he : v = n := by omega
    subst he
    refine ⟨x4, o4, cs, H, ?_, hst, hx, ho, fun j l hj hl => by obtain ⟨r, a, b, _⟩ := hr j l hj hl; exact ⟨r, a, b⟩⟩
    obtain ⟨_, _, rfl⟩ := hg.len
    obtain ⟨_, _, rfl⟩ := hx.len
    exact lp_last (f15_L0_1 (by omega))
  | d + 1, v, x4, o4, cs, H, hv, hst, hx, ho, hr => by
    have hvG : v < G.length := by omega
    have hlv := hs.2 _ (List.getElem_mem hvG)
    have hl1 := hst.1
    obtain ⟨x6, o6, H2, u1, u2, u3, u4⟩ := loop17i (n := n) (by omega) (by omega) hl1 (hg.stay hst) (prot := prot) hvG hlv (by obtain ⟨a, c, h⟩ := hx.len; exact ⟨a, _, c, h⟩) G[v].length 0 (.slice none 0 0) none H (by omega) (Stay.refl _ _) own_nil (fun id h => by cases h)
    have hx2 := hx.stay u4 (fun _ _ h => by cases h)
    have l2 := u4.1
    have h6 := u2.len
    have hcell : [x6].all isCell = true := by obtain ⟨_, _, rfl⟩ := h6; rfl
    have hsl := hs.1
    obtain ⟨a', c', o', H3, s1, s2, s3, s4, s5, s6⟩ := own_app T22 hx2 (ecs := [x6]) rfl hcell (prot := H0.length) (room := true) ho (by omega) (by omega) (L := 1 * 1) rfl (el := [x6].length) rfl
    have hol : ∀ id, o4 = some id → id < H.length := fun id h => by
      rw [h] at hx
      exact (List.getElem?_eq_some_iff.1 hx.2.2.2.choose_spec.2).1
    have hx6l : ∀ id off L m c, x6 = .slice (some ⟨id, off, some L⟩) m c → H.length ≤ id ∧ id < H2.length := fun id off L m c e => by
      have h1 := u2.rd.low id off L m c e
      refine ⟨?_, h1⟩
      cases ho6 : o6 with
      | none =>
        rw [ho6] at u2
        rcases u2.2.2 with h | h
        · rw [h] at e; cases e
        · rw [h] at e; cases e
      | some k =>
        rw [ho6] at u2
        have h2 := u2.2.2.1
        rw [h2] at e
        have := u3 k ho6
        cases e
        exact this
    have hcl : cs.length = v := by have := hx.1; omega
    obtain ⟨x', o2, cs', H', z1, z2, z3, z4, z5⟩ := loop17o hn hg hs (prot := prot) d (v + 1) _ (some o') (cs ++ [x6]) H3 (by omega) ((hst.trans u4).over s3 ho) s2 (fun id h => by cases h; exact s4) (fun j l hj hl => by
      by_cases he : j = v
      · subst he
        rw [List.getElem?_eq_getElem hvG] at hl
        cases hl
        refine ⟨x6, by rw [List.getElem?_append_right (by omega), hcl, Nat.sub_self]; rfl, u2.rd.stayNe s3 (fun id off L m c e h => by have := hx6l id off L m c e; have := hol id h; omega), fun id off L m c e h => ?_⟩
        have h := Option.some.inj h
        have := hx6l id off L m c e
        cases hh : o4 with
        | none => have := s5 hh; omega
        | some k => have := s6 k hh; have := hol k hh; omega
      · obtain ⟨r, r1, r2, r3⟩ := hr j l (by omega) hl
        refine ⟨r, by rw [List.getElem?_append_left (by omega)]; exact r1, (r2.stay u4).stayNe s3 r3, fun id off L m c e h => ?_⟩
        have h := Option.some.inj h
        have hlow := r2.low id off L m c e
        cases hh : o4 with
        | none => have := s5 hh; omega
        | some k => have := s6 k hh; exact r3 id off L m c e (by rw [hh, ← this, h]))
    refine ⟨x', o2, cs', H', ?_, z2, z3, z4, z5⟩
    obtain ⟨_, _, rfl⟩ := hg.len
    obtain ⟨_, _, rfl⟩ := hx.len
    obtain ⟨_, _, rfl⟩ := h6
    exact lp_next (f15_L0_0 (by omega) u1 s1 (fit64 (by omega) (by omega))) z1

theorem c17 {G : List (List Int)} (hs : Short8 G) {x0 : Value} (prot : Nat) {H : AHeap} (hg : Gr H x0 G) : ∃ x' H', callInf cfg 15 [x0] prot H = some (x', H') ∧ Gr H' x' (wit G) ∧ Stay none H H' := by
  obtain ⟨n, hn⟩ : ∃ n, n = min 512 G.length := ⟨_, rfl⟩
  obtain ⟨x', o', cs', H', z1, z2, z3, z4, z5⟩ := loop17o hn hg hs (prot := prot) n 0 (.slice none 0 0) none [] H (by omega) (Stay.refl _ _) own_nil (fun id h => by cases h) (fun j l hj => by omega)
  have hmin : (if (512 : Int) < (G.length : Int) then 512 else (G.length : Int)) = (n : Int) := by
    split <;> omega
  have hgr : ∀ Hx, (∀ e m c cs, Rd H' e 1 x' m cs → Rd Hx e 1 x' m cs) → (∀ r m cs, Rd H' 3 1 r m cs → Rd Hx 3 1 r m cs) → Gr Hx x' (wit G) := fun Hx h1 h2 => by
    refine ⟨cs', by rw [wit_len, ← hn]; exact h1 _ _ 0 _ z3.rd, fun i l hl => ?_⟩
    unfold wit at hl
    rw [List.getElem?_map, Option.map_eq_some_iff] at hl
    obtain ⟨l0, hl0, rfl⟩ := hl
    have hi : i < (G.take 512).length := (List.getElem?_eq_some_iff.1 hl0).1
    rw [List.length_take] at hi
    rw [List.getElem?_take_of_lt (by omega)] at hl0
    obtain ⟨r, a, b⟩ := z5 i l0 (by omega) hl0
    rw [← hn]
    exact ⟨r, a, by rw [List.length_map]; exact h2 _ _ _ b⟩
  obtain ⟨aG, cG, rfl⟩ := hg.len
  rw [← hmin] at z1
  have hz3 := z3
  obtain ⟨ax, cx, hxe⟩ := z3.len
  cases ho : o' with
  | none =>
    rw [ho] at hz3
    have h0 : n = 0 := hz3.2.1
    have hG0 : G = [] := List.eq_nil_of_length_eq_zero (by omega)
    have hpf : pfin a15 H [x'] H' = (x', H) := by
      rw [pfin_eq, if_neg (by simp [a15])]
      rcases hz3.2.2 with hx | hx
      · rw [hx]; exact gc_plain rfl
      · rw [hx]; rfl
    refine ⟨x', H, ?_, ⟨[], ?_, fun i l hl => ?_⟩, Stay.refl _ _⟩
    · rw [hxe] at z1 hpf ⊢; exact f15_F_0 _ _ z1 hpf
    · subst hG0; exact ⟨rfl, .inl ⟨rfl, hz3.2.2⟩⟩
    · subst hG0; simp [wit] at hl
  | some id =>
    rw [ho] at hz3
    have hpos : 0 < n := hz3.2.1
    obtain ⟨l, hl⟩ : ∃ l, G[0]? = some l := ⟨_, List.getElem?_eq_getElem (by omega)⟩
    by_cases hnp : cs'.all plain0 = true
    · -- all rows are nil
      obtain ⟨x2, o2, H2, g1, g2, g3, g4, _⟩ := gc_row (H := H) (ps := []) z3 z4 hnp rfl
      have hpf : pfin a15 H [x'] H' = (x2, H2) := by
        rw [pfin_eq, if_neg (by simp [a15])]; exact g1
      refine ⟨x2, H2, ?_, ⟨cs', by rw [wit_len, ← hn]; exact g2.rd, fun i l hl => ?_⟩, g3⟩
      · rw [hxe] at z1 hpf; exact f15_F_0 _ _ z1 hpf
      · unfold wit at hl
        rw [List.getElem?_map, Option.map_eq_some_iff] at hl
        obtain ⟨l0, hl0, rfl⟩ := hl
        have hi : i < (G.take 512).length := (List.getElem?_eq_some_iff.1 hl0).1
        rw [List.length_take] at hi
        rw [List.getElem?_take_of_lt (by omega)] at hl0
        obtain ⟨r, a, b⟩ := z5 i l0 (by omega) hl0
        have hrp := List.all_eq_true.1 hnp r (List.mem_of_getElem? a)
        rw [← hn]
        refine ⟨r, a, ?_⟩
        rw [List.length_map]
        rcases b.2 with h | ⟨id, L, wr, md, c, all, h, _⟩
        · exact ⟨b.1, .inl h⟩
        · rw [h] at hrp; simp [plain0] at hrp
    · have hnp : cs'.all plain0 = false := by simpa using hnp
      have hpf : pfin a15 H [x'] H' = (x', H') := by
        rw [pfin_eq, if_neg (by simp [a15])]; exact gc_not hz3 hnp
      refine ⟨x', H', ?_, hgr H' (fun _ _ _ _ h => h) (fun _ _ _ h => h), z2⟩
      rw [hxe] at z1 hpf ⊢; exact f15_F_0 _ _ z1 hpf
end Go.Proofs.YtkemihfaohkoeaaDoor.Am11d
set_option linter.unusedVariables false
open Go Go.Proofs.YtkemihfaohkoeaaDoor.Am
namespace Go.Proofs.YtkemihfaohkoeaaDoor.Am11d
theorem f11_F_0 {x0 : Int} {H : AHeap} {prot : Nat}  : callInf cfg 11 [.int .i64 x0] prot H = some (Value.int .i64 x0, H) :=
  fn_of2 a11 [] (Eq.refl ((Value.int .i64 x0, H) : Value × AHeap)) (by kernel_rfl) rfl
end Go.Proofs.YtkemihfaohkoeaaDoor.Am11d
namespace Go.Proofs.YtkemihfaohkoeaaDoor.Am11d
open Go Go.Proofs.YtkemihfaohkoeaaDoor.Am
theorem cKnows (prot : Nat) (H : AHeap) : callInf cfg 14 [] prot H = some (.bool true, H) := by
  refine callInf_body ?_
  unfold callWith
  have h : cfg.code 14 = some a14 := rfl
  rw [h]
  rfl
/-! ### Numbers of components -/
def Mu (G : List (List Int)) (u v : Nat) : Prop := Rch G u v ∧ Rch G v u
theorem Mu.symm {G : List (List Int)} {u v : Nat} (h : Mu G u v) : Mu G v u := ⟨h.2, h.1⟩
theorem Mu.trans {G : List (List Int)} {u v w : Nat} (h : Mu G u v) (k : Mu G v w) : Mu G u w := ⟨h.1.trans k.1, k.2.trans h.2⟩
theorem mu_Mu {G : List (List Int)} {u v : Nat} : mu G u v = true ↔ Mu G u v := mu_iff
/-- Numbers rise by one at most. -/
def pr : List Nat → Nat → Option Nat
  | [], m => some m
  | x :: l, m => if x ≤ m then pr l (max m (x + 1)) else none
theorem pr_snoc {x n : Nat} (hx : x ≤ n) : ∀ (l : List Nat) (m : Nat), pr l m = some n → pr (l ++ [x]) m = some (max n (x + 1))
  | [], m, h => by
    simp only [pr, Option.some.injEq] at h
    subst h
    simp [pr, hx]
  | y :: l, m, h => by
    rw [List.cons_append, pr]
    rw [pr] at h
    split at h
    · rename_i hy
      rw [if_pos hy]
      exact pr_snoc hx l _ h
    · cases h
structure NI (G : List (List Int)) (v : Nat) (out : List Nat) (n : Nat) : Prop where
  l : out.length = v
  b : ∀ i, i < v → out.getD i 0 < n
  e : ∀ u w, u < v → w < v → (out.getD u 0 = out.getD w 0 ↔ u = w ∨ Mu G u w)
  p : pr out 0 = some n
theorem getD_snoc {out : List Nat} {x i : Nat} : (out ++ [x]).getD i 0 = if i = out.length then x else out.getD i 0 := by
  by_cases h : i < out.length
  · rw [if_neg (by omega), List.getD_eq_getElem?_getD, List.getElem?_append_left h, ← List.getD_eq_getElem?_getD]
  · by_cases h2 : i = out.length
    · subst h2; simp [List.getD_eq_getElem?_getD]
    · rw [if_neg h2, List.getD_eq_getElem?_getD, List.getD_eq_getElem?_getD, List.getElem?_eq_none (by simp; omega), List.getElem?_eq_none (by omega)]
theorem numR_ok {G : List (List Int)} : ∀ (d v : Nat) (out : List Nat) (n : Nat), NI G v out n → NI G (v + d) (numR G d v out n).1 (numR G d v out n).2
  | 0, v, out, n, h => h
  | d + 1, v, out, n, h => by
    rw [numR, show v + (d + 1) = v + 1 + d by omega]
    cases hf : findM (mu G v) v 0 with
    | some u =>
      obtain ⟨_, hu, hm⟩ := findM_some hf
      have hmu := mu_Mu.1 hm
      have hul : u < v := by omega
      refine numR_ok d (v + 1) _ n ⟨by simp [h.l], fun i hi => ?_, fun a c ha hc => ?_, ?_⟩
      · rw [getD_snoc, h.l]
        split
        · exact h.b u hul
        · exact h.b i (by omega)
      · have new : ∀ w, w < v → (out.getD w 0 = out.getD u 0 ↔ Mu G w v) := fun w hw => by
          rw [h.e w u hw hul]
          constructor
          · rintro (rfl | h1)
            · exact hmu.symm
            · exact h1.trans hmu.symm
          · intro h1
            by_cases e : w = u
            · exact .inl e
            · exact .inr (h1.trans hmu)
        rw [getD_snoc, getD_snoc, h.l]
        by_cases e1 : a = v
        · by_cases e2 : c = v
          · rw [if_pos e1, if_pos e2]; simp [e1, e2]
          · rw [if_pos e1, if_neg e2]
            have := new c (by omega)
            subst e1
            constructor
            · intro h1; exact .inr (this.1 h1.symm).symm
            · rintro (h1 | h1)
              · exact absurd h1.symm e2
              · exact (this.2 h1.symm).symm
        · by_cases e2 : c = v
          · rw [if_neg e1, if_pos e2]
            have := new a (by omega)
            subst e2
            constructor
            · intro h1; exact .inr (this.1 h1)
            · rintro (h1 | h1)
              · exact absurd h1 e1
              · exact this.2 h1
          · rw [if_neg e1, if_neg e2]
            exact h.e a c (by omega) (by omega)
      · have hb := h.b u hul
        have := pr_snoc (Nat.le_of_lt hb) out 0 h.p
        rw [Nat.max_eq_left (by omega)] at this
        exact this
    | none =>
      have hno : ∀ w, w < v → ¬ Mu G v w := fun w hw hm => by
        have := findM_none hf w (Nat.zero_le _) (by omega)
        rw [mu_Mu.2 hm] at this
        cases this
      refine numR_ok d (v + 1) _ (n + 1) ⟨by simp [h.l], fun i hi => ?_, fun a c ha hc => ?_, ?_⟩
      · rw [getD_snoc, h.l]
        split
        · omega
        · have := h.b i (by omega); omega
      · rw [getD_snoc, getD_snoc, h.l]
        by_cases e1 : a = v
        · by_cases e2 : c = v
          · rw [if_pos e1, if_pos e2]; simp [e1, e2]
          · rw [if_pos e1, if_neg e2]
            have := h.b c (by omega)
            subst e1
            constructor
            · intro h1; omega
            · rintro (h1 | h1)
              · exact absurd h1.symm e2
              · exact absurd h1 (hno c (by omega))
        · by_cases e2 : c = v
          · rw [if_neg e1, if_pos e2]
            have := h.b a (by omega)
            subst e2
            constructor
            · intro h1; omega
            · rintro (h1 | h1)
              · exact absurd h1 e1
              · exact absurd h1.symm (hno a (by omega))
          · rw [if_neg e1, if_neg e2]
            exact h.e a c (by omega) (by omega)
      · have := pr_snoc (Nat.le_refl n) out 0 h.p
        rw [Nat.max_eq_right (by omega)] at this
        exact this
theorem comp_ok (G : List (List Int)) : NI G G.length (comp G).1 (comp G).2 := by
  have := numR_ok (G := G) G.length 0 [] 0 ⟨rfl, fun i h => by omega, fun u w h => by omega, rfl⟩
  rw [Nat.zero_add] at this
  exact this

/-! ### The graph that is made -/
theorem wit_short {G : List (List Int)} (h : Short8 G) : Short (wit G) := fun l hl => by
  unfold wit at hl
  rw [List.mem_map] at hl
  obtain ⟨l0, h0, rfl⟩ := hl
  rw [List.length_map]
  have := h.2 l0 (List.mem_of_mem_take h0)
  omega
theorem wit_chk (G : List (List Int)) : chk (wit G) = 0 := by
  unfold chk
  rw [if_neg (by rw [wit_len]; omega), if_neg]
  rw [Bool.not_eq_true, List.any_eq_false]
  intro l hl
  unfold bad
  rw [Bool.not_eq_true, List.any_eq_false]
  intro x hx
  have hlen := wit_len G
  unfold wit at hl
  rw [List.mem_map] at hl
  obtain ⟨l0, h0, rfl⟩ := hl
  rw [List.mem_map] at hx
  obtain ⟨y, _, rfl⟩ := hx
  have hpos : 0 < min 512 G.length := by
    have : 0 < (G.take 512).length := List.length_pos_of_mem h0
    rw [List.length_take] at this
    exact this
  have := wrapI_range hpos y
  rw [hlen]
  simp
  omega
end Go.Proofs.YtkemihfaohkoeaaDoor.Am11d
namespace Go.Proofs.YtkemihfaohkoeaaDoor.Am11d
open Go Go.Proofs.YtkemihfaohkoeaaDoor.Am
/-! Components and what they reach. -/
def RQ (G : List (List Int)) (v u : Nat) : Prop := u = v ∨ Rch G v u
theorem RQ.trans {G : List (List Int)} {a b c : Nat} (h : RQ G a b) (k : RQ G b c) : RQ G a c := by
  rcases h with rfl | h
  · exact k
  · rcases k with rfl | k
    · exact .inr h
    · exact .inr (h.trans k)
noncomputable def Lc (G : List (List Int)) (v : Nat) : Nat := (comp G).1.getD v 0
theorem pr_le : ∀ (l : List Nat) (m n : Nat), pr l m = some n → n ≤ m + l.length
  | [], m, n, h => by simp only [pr, Option.some.injEq] at h; simp; omega
  | y :: l, m, n, h => by
    rw [pr] at h
    split at h
    · have := pr_le l _ _ h; simp; omega
    · cases h
theorem comp_n (G : List (List Int)) : (comp G).2 ≤ G.length := by
  have h := comp_ok G
  have := pr_le _ _ _ h.p
  rw [h.l] at this
  omega
theorem Lc_lt {G : List (List Int)} {v : Nat} (hv : v < G.length) : Lc G v < (comp G).2 := (comp_ok G).b v hv
theorem Lc_eq {G : List (List Int)} {u v : Nat} (hu : u < G.length) (hv : v < G.length) : Lc G u = Lc G v ↔ u = v ∨ Mu G u v := (comp_ok G).e u v hu hv
theorem Lc_RQ {G : List (List Int)} {u v : Nat} (hu : u < G.length) (hv : v < G.length) (h : Lc G u = Lc G v) : RQ G u v := by
  rcases (Lc_eq hu hv).1 h with rfl | h
  · exact .inl rfl
  · exact .inr h.1
/-- A component reaches a component. -/
def Abv (G : List (List Int)) (c d : Nat) : Prop := ∃ v u, v < G.length ∧ u < G.length ∧ Lc G v = c ∧ Lc G u = d ∧ RQ G v u
theorem Abv.trans {G : List (List Int)} {c d i : Nat} (h : Abv G c d) (k : Abv G d i) : Abv G c i := by
  obtain ⟨v, u, hv, hu, h1, h2, h3⟩ := h
  obtain ⟨w, x, hw, hx, k1, k2, k3⟩ := k
  exact ⟨v, x, hv, hx, h1, k2, (h3.trans (Lc_RQ hu hw (by rw [h2, k1]))).trans k3⟩
theorem Abv.anti {G : List (List Int)} {c d : Nat} (h : Abv G c d) (k : Abv G d c) : c = d := by
  obtain ⟨v, u, hv, hu, h1, h2, h3⟩ := h
  obtain ⟨w, x, hw, hx, k1, k2, k3⟩ := k
  have h4 : RQ G u v := ((Lc_RQ hu hw (by rw [h2, k1])).trans k3).trans (Lc_RQ hx hv (by rw [k2, h1]))
  rw [← h1, ← h2]
  refine (Lc_eq hv hu).2 ?_
  rcases h3 with rfl | h3
  · exact .inl rfl
  · rcases h4 with rfl | h4
    · exact .inl rfl
    · exact .inr ⟨h3, h4⟩
noncomputable def abv (G : List (List Int)) (c d : Nat) : Bool := @decide (Abv G c d) (Classical.propDecidable _)
theorem abv_iff {G : List (List Int)} {c d : Nat} : abv G c d = true ↔ Abv G c d := by unfold abv; exact @decide_eq_true_iff _ (Classical.propDecidable _)
end Go.Proofs.YtkemihfaohkoeaaDoor.Am11d
namespace Go.Proofs.YtkemihfaohkoeaaDoor.Am
open Go
/-! Lists of sets of eight words. -/
def sets (A : Nat → Nat → Bool) (n : Nat) : List Value := (List.range n).flatMap fun c => setL (A c)
theorem sets_succ (A : Nat → Nat → Bool) (n : Nat) : sets A (n + 1) = sets A n ++ setL (A n) := by
  unfold sets
  rw [List.range_succ, List.flatMap_append]
  simp
theorem sets_len (A : Nat → Nat → Bool) : ∀ n, (sets A n).length = n * 8
  | 0 => rfl
  | n + 1 => by rw [sets_succ, List.length_append, sets_len A n, setL_len]; omega
theorem sets_plain (A : Nat → Nat → Bool) : ∀ n, (sets A n).all plain0 = true
  | 0 => rfl
  | n + 1 => by rw [sets_succ, List.all_append, sets_plain A n, setL_plain]; rfl
theorem sets_congr {A B : Nat → Nat → Bool} : ∀ n, (∀ c, c < n → ∀ i, i < 512 → A c i = B c i) → sets A n = sets B n
  | 0, _ => rfl
  | n + 1, h => by rw [sets_succ, sets_succ, sets_congr n (fun c hc => h c (by omega)), setL_congr (h n (by omega))]
theorem sets_get (A : Nat → Nat → Bool) {i : Nat} : ∀ n, i < n → ((sets A n).drop (i * 8)).take 8 = setL (A i)
  | 0, h => by omega
  | n + 1, h => by
    have hl := sets_len A n
    rw [sets_succ]
    by_cases e : i = n
    · subst e
      rw [List.drop_append_of_le_length (by omega), List.drop_of_length_le (by omega), List.nil_append, List.take_of_length_le (by rw [setL_len]; omega)]
    · rw [List.drop_append_of_le_length (by omega), List.take_append_of_le_length (by rw [List.length_drop]; omega)]
      exact sets_get A n (by omega)
theorem sets_put (A : Nat → Nat → Bool) (T : Nat → Bool) {i : Nat} : ∀ n, i < n → putList (sets A n) (i * 8 + 0) (setL T) = sets (fun c => if c = i then T else A c) n
  | 0, h => by omega
  | n + 1, h => by
    have hl := sets_len A n
    have hT := setL_len T
    rw [sets_succ, sets_succ]
    by_cases e : i = n
    · subst e
      unfold putList
      rw [if_pos rfl, List.take_append_of_le_length (by omega), List.take_of_length_le (by omega), List.drop_of_length_le (by rw [List.length_append, setL_len]; omega), List.append_nil]
      congr 1
      exact sets_congr i (fun c hc j _ => by rw [if_neg (by omega)])
    · have ih := sets_put A T n (show i < n by omega)
      rw [← ih, if_neg (by omega)]
      unfold putList
      rw [List.take_append_of_le_length (by omega), List.drop_append_of_le_length (by omega)]
      simp [List.append_assoc]
theorem repCells_snoc (z : List Value) : ∀ n, repCells z (n + 1) = repCells z n ++ z
  | 0 => by simp [repCells]
  | n + 1 => by
    show z ++ repCells z (n + 1) = (z ++ repCells z n) ++ z
    rw [repCells_snoc z n, List.append_assoc]
theorem sets_no : ∀ n, sets (fun _ => noS) n = repCells (List.replicate 8 (.int .u64 0)) n
  | 0 => by simp [sets, repCells]
  | n + 1 => by rw [sets_succ, sets_no n, setL_no, repCells_snoc]

/-- A row of one's own, it may be empty. -/
def OwnS (H : AHeap) (e s : Nat) (x : Value) (n : Nat) (cs : List Value) (b : Nat) : Prop :=
  (∃ o, Own H e s x o n cs ∧ ∀ id, o = some id → b ≤ id) ∨ (n = 0 ∧ cs = [] ∧ ∃ id, x = .slice (some ⟨id, 0, some 0⟩) 0 0 ∧ b ≤ id ∧ H[id]? = some (.cells [] e 0 .row))
theorem OwnS.rd {H : AHeap} {e s n b : Nat} {x : Value} {cs : List Value} (h : OwnS H e s x n cs b) : Rd H e s x n cs := by
  rcases h with ⟨o, h, _⟩ | ⟨rfl, rfl, id, rfl, _, h⟩
  · exact h.rd
  · exact ⟨by simp, .inr ⟨id, 0, 0, .row, 0, [], rfl, Nat.le_refl _, Nat.le_refl _, by omega, h, by simp⟩⟩
theorem OwnS.weak {H : AHeap} {e s n b c : Nat} {x : Value} {cs : List Value} (h : OwnS H e s x n cs b) (hc : c ≤ b) : OwnS H e s x n cs c := by
  rcases h with ⟨o, h, h2⟩ | ⟨a1, a2, id, a3, h1, h⟩
  · exact .inl ⟨o, h, fun id e => Nat.le_trans hc (h2 id e)⟩
  · exact .inr ⟨a1, a2, id, a3, Nat.le_trans hc h1, h⟩
theorem OwnS.stay {H H' : AHeap} {e s n b : Nat} {x : Value} {cs : List Value} (h : OwnS H e s x n cs b) (k : Stay none H H') : OwnS H' e s x n cs b := by
  rcases h with ⟨o, h, h2⟩ | ⟨rfl, rfl, id, rfl, h1, h⟩
  · exact .inl ⟨o, h.stay k (fun _ _ h => by cases h), h2⟩
  · exact .inr ⟨rfl, rfl, id, rfl, h1, by rw [k.2 id (List.getElem?_eq_some_iff.1 h).1 (by simp)]; exact h⟩
theorem gcS {H H1 : AHeap} {e s n : Nat} {x : Value} {cs : List Value} (h : OwnS H1 e s x n cs H.length) (hp : cs.all plain0 = true) {ps : List Value} (hps : ps.all plain1 = true) :
    ∃ x' H', gc H (x :: ps) H1 = (tupled (x' :: ps), H') ∧ OwnS H' e s x' n cs H.length ∧ Stay none H H' := by
  rcases h with ⟨o, h, h2⟩ | ⟨rfl, rfl, id, rfl, h1, h⟩
  · obtain ⟨x', o', H', g1, g2, g3, g4, _⟩ := gc_row h h2 hp hps
    exact ⟨x', H', g1, .inl ⟨o', g2, g4⟩, g3⟩
  · refine ⟨.slice (some ⟨H.length, 0, some 0⟩) 0 0, H ++ [.cells [] e 0 .row], ?_, .inr ⟨rfl, rfl, H.length, rfl, Nat.le_refl _, append_get.1⟩, Stay.app none H _⟩
    unfold gc
    simp only [gcHeap]
    simp only [sliceIds, sliceIds_plain ps hps, noDup, List.contains_nil, Bool.not_false, Bool.and_self, if_true, keepAll, keep1]
    rw [if_neg (by omega), h]
    simp only
    rw [if_pos ⟨rfl, by simp⟩, Option.bind_some, keepAll_plain ps _ hps]
    simp
end Go.Proofs.YtkemihfaohkoeaaDoor.Am
set_option linter.unusedVariables false
open Go Go.Proofs.YtkemihfaohkoeaaDoor.Am
namespace Go.Proofs.YtkemihfaohkoeaaDoor.Am11d
theorem f24_F_0 {x0a : Option Addr} {x0n x0c : Nat} {H : AHeap} {prot : Nat} {x10a : Option Addr} {x10n x10c : Nat} {H1 : AHeap} {x14aa : Option Addr} {x14an x14ac : Nat} {x14b : Int} {H2 : AHeap} {z6a : Option Addr} {z6n z6c : Nat} {H3 : AHeap} (rv : Value) (rH : AHeap) (h1 : callInf cfg 34 [Value.slice x0a x0n x0c] (List.length H) H = some (Value.slice x10a x10n x10c, H1)) (h2 : callInf cfg 33 [Value.slice x0a x0n x0c, Value.slice x10a x10n x10c] (List.length H) H1 = some (Value.tuple { toList := [Value.slice x14aa x14an x14ac, Value.int .i64 x14b] }, H2)) (h3 : 0 ≤ x14b) (h4 : x14b = x14b) (h5 : x14b ≤ 9223372036854775807) (h6 : (↑64 : Int) * x14b ≤ 2 ^ 48) (h7 : lpInf (lpOf cfg a24 0 prot H) ([Value.slice x0a x0n x0c, Value.slice x10a x10n x10c, Value.slice x14aa x14an x14ac, Value.slice (some ⟨List.length H2, 0, some (x14b.toNat * 8)⟩) x14b.toNat x14b.toNat, Value.int .i64 (↑x0n : Int), Value.int .i64 0], H2 ++ [AObj.cells (repCells [Value.int .u64 0, Value.int .u64 0, Value.int .u64 0, Value.int .u64 0, Value.int .u64 0, Value.int .u64 0, Value.int .u64 0, Value.int .u64 0] x14b.toNat) 46 (repCells [Value.int .u64 0, Value.int .u64 0, Value.int .u64 0, Value.int .u64 0, Value.int .u64 0, Value.int .u64 0, Value.int .u64 0, Value.int .u64 0] x14b.toNat).length OMode.row]) = some (Ex.exit 0, [Value.slice z6a z6n z6c], H3)) (h8 : pfin a24 H [Value.slice z6a z6n z6c] H3 = (rv, rH)) : callInf cfg 24 [.slice x0a x0n x0c] prot H = some (rv, rH) :=
  fn_of2 a24 [.r (.slice x10a x10n x10c) H1, .r (.tuple #[.slice x14aa x14an x14ac, .int .i64 x14b]) H2, .e, .e, .lo (.exit 0, [.slice z6a z6n z6c], H3)] (ai h1 (ai h2 (ai h3 (ai h4 (ai h5 (ai h6 (ai h7 h8))))))) (by kernel_rfl) rfl
theorem f24_L0_0 {x0a : Option Addr} {x0n x0c : Nat} {x3a : Option Addr} {x3n x3c : Nat} {x4a : Option Addr} {x4n x4c : Nat} {x6a : Option Addr} {x6n x6c : Nat} {x20 x21 : Int} {H0 : AHeap} {prot : Nat} {H : AHeap} {x27p x27o x27l : Nat} {x28 : Int} {x32p x32o x32l : Nat} {x33 : Int} {x34p x34o x34l : Nat} {x35 : Array Value} {x38p x38o x38l : Nat} {x39 : Int} {x40 : Array Value} {x41p x41o x41l : Nat} {H2 : AHeap} {z0a : Option Addr} {z0n z0c : Nat} {z3a : Option Addr} {z3n z3c : Nat} {z4a : Option Addr} {z4n z4c : Nat} {z6a : Option Addr} {z6n z6c : Nat} {z20 z21 : Int} {H3 : AHeap} (h1 : x21 < x20) (h2 : aindexAddr cfg.P 24 (Value.slice x4a x4n x4c) (Value.int .i64 x21) = some (Value.pointer (some ⟨x27p, x27o, some x27l⟩))) (h3 : getCells H x27p x27l x27o 1 = some [Value.int .i64 x28]) (h4 : aindexAddr cfg.P 24 (Value.slice x4a x4n x4c) (Value.int .i64 x21) = some (Value.pointer (some ⟨x32p, x32o, some x32l⟩))) (h5 : getCells H x32p x32l x32o 1 = some [Value.int .i64 x33]) (h6 : aindexAddr cfg.P 53 (Value.slice x6a x6n x6c) (Value.int .i64 x33) = some (Value.pointer (some ⟨x34p, x34o, some x34l⟩))) (h7 : getCells H x34p x34l x34o 8 = some x35.toList) (h8 : aindexAddr cfg.P 24 (Value.slice x4a x4n x4c) (Value.int .i64 x21) = some (Value.pointer (some ⟨x38p, x38o, some x38l⟩))) (h9 : getCells H x38p x38l x38o 1 = some [Value.int .i64 x39]) (h10 : callInf cfg 35 [Value.agg x35, Value.int .i64 x39] (List.length H0) H = some (Value.agg x40, H)) (h11 : aindexAddr cfg.P 53 (Value.slice x6a x6n x6c) (Value.int .i64 x28) = some (Value.pointer (some ⟨x41p, x41o, some x41l⟩))) (h12 : x40.toList.length = 8) (h13 : setCells H (List.length H0) x41p x41l x41o x40.toList = some H2) (h14 : lpInf (lpOf cfg a24 1 prot H0) ([Value.slice x0a x0n x0c, Value.slice x3a x3n x3c, Value.slice x4a x4n x4c, Value.slice x6a x6n x6c, Value.int .i64 x21, Value.int .i64 x20, Value.int .i64 x21, Value.int .i64 (↑x0n : Int), Value.int .i64 0], H2) = some (Ex.exit 2, [Value.slice z0a z0n z0c, Value.slice z3a z3n z3c, Value.slice z4a z4n z4c, Value.slice z6a z6n z6c, Value.int .i64 z20, Value.int .i64 z21], H3)) (h15 : Fit .i64 (z21 + 1)) : lpOf cfg a24 0 prot H0 ([.slice x0a x0n x0c, .slice x3a x3n x3c, .slice x4a x4n x4c, .slice x6a x6n x6c, .int .i64 x20, .int .i64 x21], H) = some (Sum.inl ([Value.slice z0a z0n z0c, Value.slice z3a z3n z3c, Value.slice z4a z4n z4c, Value.slice z6a z6n z6c, Value.int .i64 z20, Value.int .i64 (z21 + 1)], H3)) :=
  lp_of2 [.e, .b true, .v (.pointer (some ⟨x27p, x27o, some x27l⟩)), .v (.int .i64 x28), .v (.pointer (some ⟨x32p, x32o, some x32l⟩)), .v (.int .i64 x33), .v (.pointer (some ⟨x34p, x34o, some x34l⟩)), .v (.agg x35), .v (.pointer (some ⟨x38p, x38o, some x38l⟩)), .v (.int .i64 x39), .v (.agg x40), .v (.pointer (some ⟨x41p, x41o, some x41l⟩)), .h H2, .e, .lo (.exit 2, [.slice z0a z0n z0c, .slice z3a z3n z3c, .slice z4a z4n z4c, .slice z6a z6n z6c, .int .i64 z20, .int .i64 z21], H3), .e] (ai (decide_eq_true h1) (ai h2 (ai h3 (ai h4 (ai h5 (ai h6 (ai h7 (ai h8 (ai h9 (ai h10 (ai h11 (ai h12 (ai h13 (ai h14 (ai h15 (Eq.refl (Sum.inl ([Value.slice z0a z0n z0c, Value.slice z3a z3n z3c, Value.slice z4a z4n z4c, Value.slice z6a z6n z6c, Value.int .i64 z20, Value.int .i64 (z21 + 1)], H3) : LS ⊕ LO))))))))))))))))) (by kernel_rfl)
theorem f24_L0_1 {x0a : Option Addr} {x0n x0c : Nat} {x3a : Option Addr} {x3n x3c : Nat} {x4a : Option Addr} {x4n x4c : Nat} {x6a : Option Addr} {x6n x6c : Nat} {x20 x21 : Int} {H0 : AHeap} {prot : Nat} {H : AHeap} (h1 : ¬(x21 < x20)) : lpOf cfg a24 0 prot H0 ([.slice x0a x0n x0c, .slice x3a x3n x3c, .slice x4a x4n x4c, .slice x6a x6n x6c, .int .i64 x20, .int .i64 x21], H) = some (Sum.inr (Ex.exit 0, [Value.slice x6a x6n x6c], H)) :=
  lp_of2 [.e, .b false] (ai (decide_eq_false h1) (Eq.refl (Sum.inr (Ex.exit 0, [Value.slice x6a x6n x6c], H) : LS ⊕ LO))) (by kernel_rfl)
theorem f24_L1_0 {x0a : Option Addr} {x0n x0c : Nat} {x3a : Option Addr} {x3n x3c : Nat} {x4a : Option Addr} {x4n x4c : Nat} {x6a : Option Addr} {x6n x6c : Nat} {x7 x20 x21 x43 x44 : Int} {H0 : AHeap} {prot : Nat} {H : AHeap} {x49p x49o x49l x50p x50o x50l : Nat} {x54 : Bool} {x58p x58o x58l : Nat} {x59 : Int} {x63p x63o x63l : Nat} {x64 : Int} {x65p x65o x65l : Nat} {x66 : Array Value} {x69p x69o x69l : Nat} {x70 : Int} {x71 : Array Value} {x72p x72o x72l : Nat} {H2 : AHeap} (h1 : x44 < x43) (h2 : aindexAddr cfg.P 64 (Value.slice x3a x3n x3c) (Value.int .i64 x7) = some (Value.pointer (some ⟨x49p, x49o, some x49l⟩))) (h3 : getCells H x49p x49l x49o 1 = some [Value.pointer (some ⟨x50p, x50o, some x50l⟩)]) (h4 : 0 ≤ x44) (h5 : x44 < (↑512 : Int)) (h6 : getCells H x50p x50l (x50o + x44.toNat * 1) 1 = some [Value.bool x54]) (h7 : x54 = true) (h8 : aindexAddr cfg.P 24 (Value.slice x4a x4n x4c) (Value.int .i64 x7) = some (Value.pointer (some ⟨x58p, x58o, some x58l⟩))) (h9 : getCells H x58p x58l x58o 1 = some [Value.int .i64 x59]) (h10 : aindexAddr cfg.P 24 (Value.slice x4a x4n x4c) (Value.int .i64 x7) = some (Value.pointer (some ⟨x63p, x63o, some x63l⟩))) (h11 : getCells H x63p x63l x63o 1 = some [Value.int .i64 x64]) (h12 : aindexAddr cfg.P 53 (Value.slice x6a x6n x6c) (Value.int .i64 x64) = some (Value.pointer (some ⟨x65p, x65o, some x65l⟩))) (h13 : getCells H x65p x65l x65o 8 = some x66.toList) (h14 : aindexAddr cfg.P 24 (Value.slice x4a x4n x4c) (Value.int .i64 x44) = some (Value.pointer (some ⟨x69p, x69o, some x69l⟩))) (h15 : getCells H x69p x69l x69o 1 = some [Value.int .i64 x70]) (h16 : callInf cfg 35 [Value.agg x66, Value.int .i64 x70] (List.length H0) H = some (Value.agg x71, H)) (h17 : aindexAddr cfg.P 53 (Value.slice x6a x6n x6c) (Value.int .i64 x59) = some (Value.pointer (some ⟨x72p, x72o, some x72l⟩))) (h18 : x71.toList.length = 8) (h19 : setCells H (List.length H0) x72p x72l x72o x71.toList = some H2) (h20 : Fit .i64 (x44 + 1)) : lpOf cfg a24 1 prot H0 ([.slice x0a x0n x0c, .slice x3a x3n x3c, .slice x4a x4n x4c, .slice x6a x6n x6c, .int .i64 x7, .int .i64 x20, .int .i64 x21, .int .i64 x43, .int .i64 x44], H) = some (Sum.inl ([Value.slice x0a x0n x0c, Value.slice x3a x3n x3c, Value.slice x4a x4n x4c, Value.slice x6a x6n x6c, Value.int .i64 x7, Value.int .i64 x20, Value.int .i64 x21, Value.int .i64 x43, Value.int .i64 (x44 + 1)], H2)) :=
  lp_of2 [.e, .b true, .v (.pointer (some ⟨x49p, x49o, some x49l⟩)), .v (.pointer (some ⟨x50p, x50o, some x50l⟩)), .e, .v (.bool x54), .b true, .v (.pointer (some ⟨x58p, x58o, some x58l⟩)), .v (.int .i64 x59), .v (.pointer (some ⟨x63p, x63o, some x63l⟩)), .v (.int .i64 x64), .v (.pointer (some ⟨x65p, x65o, some x65l⟩)), .v (.agg x66), .v (.pointer (some ⟨x69p, x69o, some x69l⟩)), .v (.int .i64 x70), .v (.agg x71), .v (.pointer (some ⟨x72p, x72o, some x72l⟩)), .h H2, .e] (ai (decide_eq_true h1) (ai h2 (ai h3 (ai h4 (ai h5 (ai h6 (ai h7 (ai h8 (ai h9 (ai h10 (ai h11 (ai h12 (ai h13 (ai h14 (ai h15 (ai h16 (ai h17 (ai h18 (ai h19 (ai h20 (Eq.refl (Sum.inl ([Value.slice x0a x0n x0c, Value.slice x3a x3n x3c, Value.slice x4a x4n x4c, Value.slice x6a x6n x6c, Value.int .i64 x7, Value.int .i64 x20, Value.int .i64 x21, Value.int .i64 x43, Value.int .i64 (x44 + 1)], H2) : LS ⊕ LO)))))))))))))))))))))) (by kernel_rfl)
theorem f24_L1_1 {x0a : Option Addr} {x0n x0c : Nat} {x3a : Option Addr} {x3n x3c : Nat} {x4a : Option Addr} {x4n x4c : Nat} {x6a : Option Addr} {x6n x6c : Nat} {x7 x20 x21 x43 x44 : Int} {H0 : AHeap} {prot : Nat} {H : AHeap} {x49p x49o x49l x50p x50o x50l : Nat} {x54 : Bool} (h1 : x44 < x43) (h2 : aindexAddr cfg.P 64 (Value.slice x3a x3n x3c) (Value.int .i64 x7) = some (Value.pointer (some ⟨x49p, x49o, some x49l⟩))) (h3 : getCells H x49p x49l x49o 1 = some [Value.pointer (some ⟨x50p, x50o, some x50l⟩)]) (h4 : 0 ≤ x44) (h5 : x44 < (↑512 : Int)) (h6 : getCells H x50p x50l (x50o + x44.toNat * 1) 1 = some [Value.bool x54]) (h7 : x54 = false) (h8 : Fit .i64 (x44 + 1)) : lpOf cfg a24 1 prot H0 ([.slice x0a x0n x0c, .slice x3a x3n x3c, .slice x4a x4n x4c, .slice x6a x6n x6c, .int .i64 x7, .int .i64 x20, .int .i64 x21, .int .i64 x43, .int .i64 x44], H) = some (Sum.inl ([Value.slice x0a x0n x0c, Value.slice x3a x3n x3c, Value.slice x4a x4n x4c, Value.slice x6a x6n x6c, Value.int .i64 x7, Value.int .i64 x20, Value.int .i64 x21, Value.int .i64 x43, Value.int .i64 (x44 + 1)], H)) :=
  lp_of2 [.e, .b true, .v (.pointer (some ⟨x49p, x49o, some x49l⟩)), .v (.pointer (some ⟨x50p, x50o, some x50l⟩)), .e, .v (.bool x54), .b false, .e] (ai (decide_eq_true h1) (ai h2 (ai h3 (ai h4 (ai h5 (ai h6 (ai h7 (ai h8 (Eq.refl (Sum.inl ([Value.slice x0a x0n x0c, Value.slice x3a x3n x3c, Value.slice x4a x4n x4c, Value.slice x6a x6n x6c, Value.int .i64 x7, Value.int .i64 x20, Value.int .i64 x21, Value.int .i64 x43, Value.int .i64 (x44 + 1)], H) : LS ⊕ LO)))))))))) (by kernel_rfl)
theorem f24_L1_2 {x0a : Option Addr} {x0n x0c : Nat} {x3a : Option Addr} {x3n x3c : Nat} {x4a : Option Addr} {x4n x4c : Nat} {x6a : Option Addr} {x6n x6c : Nat} {x7 x20 x21 x43 x44 : Int} {H0 : AHeap} {prot : Nat} {H : AHeap} (h1 : ¬(x44 < x43)) : lpOf cfg a24 1 prot H0 ([.slice x0a x0n x0c, .slice x3a x3n x3c, .slice x4a x4n x4c, .slice x6a x6n x6c, .int .i64 x7, .int .i64 x20, .int .i64 x21, .int .i64 x43, .int .i64 x44], H) = some (Sum.inr (Ex.exit 2, [Value.slice x0a x0n x0c, Value.slice x3a x3n x3c, Value.slice x4a x4n x4c, Value.slice x6a x6n x6c, Value.int .i64 x20, Value.int .i64 x21], H)) :=
  lp_of2 [.e, .b false] (ai (decide_eq_false h1) (Eq.refl (Sum.inr (Ex.exit 2, [Value.slice x0a x0n x0c, Value.slice x3a x3n x3c, Value.slice x4a x4n x4c, Value.slice x6a x6n x6c, Value.int .i64 x20, Value.int .i64 x21], H) : LS ⊕ LO))) (by kernel_rfl)
end Go.Proofs.YtkemihfaohkoeaaDoor.Am11d
namespace Go.Proofs.YtkemihfaohkoeaaDoor.Am11d
open Go Go.Proofs.YtkemihfaohkoeaaDoor.Am
theorem T46 : ElemT cfg.P 53 46 8 64 := ⟨by kernel_rfl, by kernel_rfl, by kernel_rfl, ⟨.agg #[.int .u64 0, .int .u64 0, .int .u64 0, .int .u64 0, .int .u64 0, .int .u64 0, .int .u64 0, .int .u64 0], by kernel_rfl, rfl⟩, by kernel_rfl, by omega, by omega⟩
theorem comp_get {G : List (List Int)} {v : Nat} (hv : v < G.length) : (il (nl (comp G).1))[v]? = some (.int .i64 ((Lc G v : Nat) : Int)) := by
  have hl := (comp_ok G).l
  unfold il nl Lc
  rw [List.getElem?_map, List.getElem?_map, List.getElem?_eq_getElem (by omega), List.getD_eq_getElem?_getD, List.getElem?_eq_getElem (by omega)]
  rfl
/-- One set is read; one is written. -/
theorem sets_at {H : AHeap} {x : Value} {o n : Nat} {A : Nat → Nat → Bool} (h : Own H 46 8 x (some o) n (sets A n)) {k : Nat} (hk : k < n) :
    aindexAddr cfg.P 53 x (.int .i64 (k : Nat)) = some (.pointer (some ⟨o, k * 8, some (sets A n).length⟩)) ∧ getCells H o (sets A n).length (k * 8) 8 = some (setA (A k)).toList := by
  obtain ⟨id, e, a, b⟩ := own_atS T46 h hk
  cases e
  have := b 0 8 (Nat.le_refl _)
  rw [Nat.add_zero, sets_get A n hk] at this
  exact ⟨a, this⟩
theorem sets_set {H : AHeap} {x : Value} {o n : Nat} {A : Nat → Nat → Bool} (h : Own H 46 8 x (some o) n (sets A n)) {k : Nat} (hk : k < n) (T : Nat → Bool) {prot : Nat} (hp : prot ≤ o) :
    ∃ H', setCells H prot o (sets A n).length (k * 8) (setA T).toList = some H' ∧ Own H' 46 8 x (some o) n (sets (fun c => if c = k then T else A c) n) ∧ Stay (some o) H H' := by
  obtain ⟨id, H', e, a, b, c, d, _⟩ := own_setS T46 h hk (j := 0) (vs := setL T) (by rw [setL_len]; omega) (setL_cell T) (prot := prot) (fun id e => by cases e; exact hp)
  cases e
  rw [sets_put A T n hk] at c
  exact ⟨H', b, c, d⟩

theorem loop40i {G : List (List Int)} (hG : Good G) {G0 : AHeap} {x0 x3 x4 x6 : Value} (hx0 : ∃ a c, x0 = .slice a G.length c) (hw : WL G G0 x3) (hx3 : ∃ a c, x3 = .slice a G.length c) (h4 : Rd G0 3 1 x4 G.length (il (nl (comp G).1))) {o : Nat} (ho : G0.length ≤ o) {H0 : AHeap} (hp : H0.length ≤ o) {prot : Nat} {p q : Int} {v : Nat} (hv : v < G.length) {B : Nat → Nat → Prop} : ∀ (d i : Nat) (A : Nat → Nat → Bool) (H : AHeap), i + d = G.length → Stay none G0 H → Own H 46 8 x6 (some o) (comp G).2 (sets A (comp G).2) →
    (∀ c e, A c e = true ↔ B c e ∨ (c = Lc G v ∧ ∃ u, u < i ∧ Rch G v u ∧ e = Lc G u)) →
    ∃ A' H', lpInf (lpOf cfg a24 1 prot H0) ([x0, x3, x4, x6, .int .i64 v, .int .i64 p, .int .i64 q, .int .i64 G.length, .int .i64 i], H) = some (.exit 2, [x0, x3, x4, x6, .int .i64 p, .int .i64 q], H') ∧ Own H' 46 8 x6 (some o) (comp G).2 (sets A' (comp G).2) ∧
      (∀ c e, A' c e = true ↔ B c e ∨ (c = Lc G v ∧ ∃ u, u < G.length ∧ Rch G v u ∧ e = Lc G u)) ∧ Stay (some o) H H'
  | 0, i, A, H, hi, hst, hx, hA => by
    have he : i = G.length := by omega
    subst he
    refine ⟨A, H, ?_, hx, hA, Stay.refl _ _⟩
    obtain ⟨_, _, rfl⟩ := hx0
    obtain ⟨_, _, rfl⟩ := hx3
    obtain ⟨_, _, rfl⟩ := h4.len
    obtain ⟨_, _, rfl⟩ := hx.len
    exact lp_last (f24_L1_2 (by omega))
  | d + 1, i, A, H, hi, hst, hx, hA => by
    have h512 := hG.1
    have hil : i < G.length := by omega
    have hn := comp_n G
    obtain ⟨id, L, p1, b, a1, a2, a3, a4⟩ := (hw.stay hst).at hv (show i < 512 by omega)
    have fi : Fit .i64 ((i : Int) + 1) := fit64 (by omega) (by omega)
    have hk := Lc_lt hv
    have hk2 := Lc_lt hil
    cases hbv : b with
    | true =>
      rw [hbv] at a3 a4
      obtain ⟨i2, L2, b1, b2⟩ := rd_at T34 (h4.stay hst) (comp_get hv)
      obtain ⟨i3, L3, c1, c2⟩ := rd_at T34 (h4.stay hst) (comp_get hil)
      obtain ⟨d1, d2⟩ := sets_at hx hk
      have h38 := c38 (S := A (Lc G v)) (show Lc G i < 512 by omega) H0.length H
      obtain ⟨H2, e1, e2, e3⟩ := sets_set hx hk (addS (A (Lc G v)) (Lc G i)) hp
      obtain ⟨A', H', z1, z2, z3, z4⟩ := loop40i hG hx0 hw hx3 h4 ho hp (prot := prot) (p := p) (q := q) hv (B := B) d (i + 1) _ H2 (by omega) (hst.over e3 (fun id e => by cases e; exact ho)) e2 (fun c e => by
        have hr := a4.1 rfl
        by_cases hc : c = Lc G v
        · subst hc
          rw [if_pos rfl]
          unfold addS
          rw [Bool.or_eq_true, decide_eq_true_eq, hA]
          constructor
          · rintro ((h | ⟨_, u, h1, h2, h3⟩) | h)
            · exact .inl h
            · exact .inr ⟨rfl, u, by omega, h2, h3⟩
            · exact .inr ⟨rfl, i, by omega, hr, h⟩
          · rintro (h | ⟨_, u, h1, h2, h3⟩)
            · exact .inl (.inl h)
            · by_cases e0 : u = i
              · subst e0; exact .inr h3
              · exact .inl (.inr ⟨rfl, u, by omega, h2, h3⟩)
        · rw [if_neg hc, hA]
          simp [hc])
      refine ⟨A', H', ?_, z2, z3, e3.trans z4⟩
      obtain ⟨_, _, rfl⟩ := hx0
      obtain ⟨_, _, rfl⟩ := hx3
      obtain ⟨_, _, rfl⟩ := h4.len
      obtain ⟨_, _, rfl⟩ := hx.len
      exact lp_next (f24_L1_0 (x66 := setA (A (Lc G v))) (x71 := setA (addS (A (Lc G v)) (Lc G i))) (by omega) a1 a2 (by omega) (by omega) a3 rfl b1 b2 b1 b2 d1 d2 c1 c2 h38 d1 (setL_len _) e1 fi) z1
    | false =>
      rw [hbv] at a3 a4
      obtain ⟨A', H', z1, z2, z3, z4⟩ := loop40i hG hx0 hw hx3 h4 ho hp (prot := prot) (p := p) (q := q) hv (B := B) d (i + 1) A H (by omega) hst hx (fun c e => by
        have hr : ¬ Rch G v i := fun h => by have := a4.2 h; cases this
        rw [hA]
        constructor
        · rintro (h | ⟨h0, u, h1, h2, h3⟩)
          · exact .inl h
          · exact .inr ⟨h0, u, by omega, h2, h3⟩
        · rintro (h | ⟨h0, u, h1, h2, h3⟩)
          · exact .inl h
          · by_cases e0 : u = i
            · subst e0; exact absurd h2 hr
            · exact .inr ⟨h0, u, by omega, h2, h3⟩)
      refine ⟨A', H', ?_, z2, z3, z4⟩
      obtain ⟨_, _, rfl⟩ := hx0
      obtain ⟨_, _, rfl⟩ := hx3
      obtain ⟨_, _, rfl⟩ := h4.len
      obtain ⟨_, _, rfl⟩ := hx.len
      exact lp_next (f24_L1_1 (by omega) a1 a2 (by omega) (by omega) a3 rfl fi) z1

/-- What the first vertices' components reach. -/
def AbvTo (G : List (List Int)) (v c d : Nat) : Prop := ∃ w u, w < v ∧ u < G.length ∧ Lc G w = c ∧ Lc G u = d ∧ RQ G w u
theorem loop40o {G : List (List Int)} (hG : Good G) {G0 : AHeap} {x0 x3 x4 x6 : Value} (hx0 : ∃ a c, x0 = .slice a G.length c) (hw : WL G G0 x3) (hx3 : ∃ a c, x3 = .slice a G.length c) (h4 : Rd G0 3 1 x4 G.length (il (nl (comp G).1))) {o : Nat} (ho : G0.length ≤ o) {H0 : AHeap} (hp : H0.length ≤ o) {prot : Nat} : ∀ (d v : Nat) (A : Nat → Nat → Bool) (H : AHeap), v + d = G.length → Stay none G0 H → Own H 46 8 x6 (some o) (comp G).2 (sets A (comp G).2) → (∀ c e, A c e = true ↔ AbvTo G v c e) →
    ∃ A' H', lpInf (lpOf cfg a24 0 prot H0) ([x0, x3, x4, x6, .int .i64 G.length, .int .i64 v], H) = some (.exit 0, [x6], H') ∧ Own H' 46 8 x6 (some o) (comp G).2 (sets A' (comp G).2) ∧ (∀ c e, A' c e = true ↔ AbvTo G G.length c e) ∧ Stay (some o) H H'
  | 0, v, A, H, hi, hst, hx, hA => by
    have he : v = G.length := by omega
    subst he
    refine ⟨A, H, ?_, hx, hA, Stay.refl _ _⟩
    obtain ⟨_, _, rfl⟩ := hx0
    obtain ⟨_, _, rfl⟩ := hx3
    obtain ⟨_, _, rfl⟩ := h4.len
    obtain ⟨_, _, rfl⟩ := hx.len
    exact lp_last (f24_L0_1 (by omega))
  | d + 1, v, A, H, hi, hst, hx, hA => by
    have h512 := hG.1
    have hv : v < G.length := by omega
    have hn := comp_n G
    have hk := Lc_lt hv
    obtain ⟨i2, L2, b1, b2⟩ := rd_at T34 (h4.stay hst) (comp_get hv)
    obtain ⟨d1, d2⟩ := sets_at hx hk
    have h38 := c38 (S := A (Lc G v)) (show Lc G v < 512 by omega) H0.length H
    obtain ⟨H2, e1, e2, e3⟩ := sets_set hx hk (addS (A (Lc G v)) (Lc G v)) hp
    have hst2 := hst.over e3 (fun id e => by cases e; exact ho)
    obtain ⟨A1, H3, y1, y2, y3, y4⟩ := loop40i hG hx0 hw hx3 h4 ho hp (prot := prot) (p := (G.length : Int)) (q := (v : Int)) hv (B := fun c e => AbvTo G v c e ∨ (c = Lc G v ∧ e = Lc G v)) G.length 0 _ H2 (by omega) hst2 e2 (fun c e => by
      by_cases hc : c = Lc G v
      · subst hc
        rw [if_pos rfl]
        unfold addS
        rw [Bool.or_eq_true, decide_eq_true_eq, hA]
        simp
      · rw [if_neg hc, hA]
        simp [hc])
    obtain ⟨A', H', z1, z2, z3, z4⟩ := loop40o hG hx0 hw hx3 h4 ho hp (prot := prot) d (v + 1) A1 H3 (by omega) (hst2.over y4 (fun id e => by cases e; exact ho)) y2 (fun c e => by
      rw [y3]
      constructor
      · rintro ((⟨w, u, h1, h2, h3, h4, h5⟩ | ⟨rfl, rfl⟩) | ⟨rfl, u, h1, h2, rfl⟩)
        · exact ⟨w, u, by omega, h2, h3, h4, h5⟩
        · exact ⟨v, v, by omega, hv, rfl, rfl, .inl rfl⟩
        · exact ⟨v, u, by omega, h1, rfl, rfl, .inr h2⟩
      · rintro ⟨w, u, h1, h2, h3, h4, h5⟩
        by_cases e0 : w = v
        · subst e0
          rcases h5 with rfl | h5
          · exact .inl (.inr ⟨h3.symm, h4.symm⟩)
          · exact .inr ⟨h3.symm, u, h2, h5, h4.symm⟩
        · exact .inl (.inl ⟨w, u, by omega, h2, h3, h4, h5⟩))
    refine ⟨A', H', ?_, z2, z3, (e3.trans y4).trans z4⟩
    obtain ⟨_, _, rfl⟩ := hx0
    obtain ⟨_, _, rfl⟩ := hx3
    obtain ⟨_, _, rfl⟩ := h4.len
    obtain ⟨_, _, rfl⟩ := hx.len
    exact lp_next (f24_L0_0 (x35 := setA (A (Lc G v))) (x40 := setA (addS (A (Lc G v)) (Lc G v))) (by omega) b1 b2 b1 b2 d1 d2 b1 b2 h38 d1 (setL_len _) e1 y1 (fit64 (by omega) (by omega))) z1

theorem c40 {G : List (List Int)} (hG : Good G) {vG : Value} (prot : Nat) {H : AHeap} (hg : Gr H vG G) : ∃ x' H', callInf cfg 24 [vG] prot H = some (x', H') ∧ OwnS H' 46 8 x' (comp G).2 (sets (abv G) (comp G).2) H.length ∧ Stay none H H' := by
  have h5 := hG.1
  have hn := comp_n G
  obtain ⟨a, c, H1, w1, w2, w3⟩ := c37 hG H.length hg
  obtain ⟨y, H2, n1, n2, n3, n4⟩ := c36 hG H.length (hg.stay w3) w2 ⟨a, c, rfl⟩
  obtain ⟨z8, hz8⟩ : ∃ z8 : List Value, z8 = [.int .u64 0, .int .u64 0, .int .u64 0, .int .u64 0, .int .u64 0, .int .u64 0, .int .u64 0, .int .u64 0] := ⟨_, rfl⟩
  have hz : z8 = List.replicate 8 (.int .u64 0) := by rw [hz8]; rfl
  obtain ⟨H3, hH3⟩ : ∃ H3, H3 = H2 ++ [AObj.cells (repCells z8 (comp G).2) 46 (repCells z8 (comp G).2).length .row] := ⟨_, rfl⟩
  have s3 : Stay none H2 H3 := by rw [hH3]; exact Stay.app none H2 _
  have hlen : H.length ≤ H2.length := Nat.le_trans w3.1 n4.1
  obtain ⟨ax, cx, hye⟩ := n2.rd.len
  have key : ∃ x6 H4, lpInf (lpOf cfg a24 0 prot H) ([vG, .slice a G.length c, y, .slice (some ⟨H2.length, 0, some ((comp G).2 * 8)⟩) (comp G).2 (comp G).2, .int .i64 G.length, .int .i64 0], H3) = some (.exit 0, [x6], H4) ∧ OwnS H4 46 8 x6 (comp G).2 (sets (abv G) (comp G).2) H.length := by
    by_cases h0 : 0 < (comp G).2
    · have m : Own H3 46 8 (.slice (some ⟨H2.length, 0, some ((comp G).2 * 8)⟩) (comp G).2 (comp G).2) (some H2.length) (comp G).2 (sets (fun _ => noS) (comp G).2) := by
        rw [sets_no, ← hz, hH3]
        have hl : (repCells z8 (comp G).2).length = (comp G).2 * 8 := by rw [hz, ← sets_no, sets_len]
        exact own_new hl h0 hl.symm rfl
      obtain ⟨A', H4, z1, z2, z3, z4⟩ := loop40o hG hg.len (w2.stay n4) ⟨a, c, rfl⟩ n2.rd (Nat.le_refl _) (H0 := H) hlen (prot := prot) G.length 0 _ H3 (by omega) s3 m (fun c e => by
        constructor
        · intro h; cases h
        · rintro ⟨w, u, h1, _⟩; omega)
      refine ⟨_, H4, z1, .inl ⟨some H2.length, ?_, fun id e => by cases e; exact hlen⟩⟩
      rw [sets_congr (A := abv G) (B := A') _ (fun c _ i _ => by rw [Bool.eq_iff_iff, abv_iff, z3]; rfl)]
      exact z2
    · have hn0 : (comp G).2 = 0 := by omega
      have hG0 : G = [] := List.eq_nil_of_length_eq_zero (by
        rcases Nat.eq_zero_or_pos G.length with h | h
        · exact h
        · have := Lc_lt h; omega)
      rw [hn0] at hH3 ⊢
      subst hG0
      obtain ⟨aG, cG, rfl⟩ := hg.len
      subst hye
      refine ⟨_, H3, lp_last (f24_L0_1 (by decide)), .inr ⟨rfl, rfl, H2.length, rfl, hlen, ?_⟩⟩
      rw [hH3]
      exact append_get.1
  obtain ⟨x6, H4, z1, z2⟩ := key
  obtain ⟨x', H', g1, g2, g3⟩ := gcS z2 (sets_plain _ _) (ps := []) rfl
  refine ⟨x', H', ?_, g2, g3⟩
  obtain ⟨aG, cG, rfl⟩ := hg.len
  subst hye
  obtain ⟨_, _, rfl⟩ := z2.rd.len
  subst hH3; subst hz8
  exact f24_F_0 _ _ w1 n1 (by omega) rfl (by omega) (by omega) z1 (by rw [pfin_eq, if_neg (by simp [a24])]; exact g1)

end Go.Proofs.YtkemihfaohkoeaaDoor.Am11d
namespace Go.Proofs.YtkemihfaohkoeaaDoor.Am
open Go
/-! Heights in a finite order. -/
/-- A height: the longest chain above. -/
structure Ht (A : Nat → Nat → Bool) (n : Nat) (h : Nat → Nat) : Prop where
  ge : ∀ c d, c < n → d < n → d ≠ c → A c d = true → h d + 1 ≤ h c
  ex : ∀ c, c < n → h c = 0 ∨ ∃ d, d < n ∧ d ≠ c ∧ A c d = true ∧ h c = h d + 1
  lt : ∀ c, c < n → h c < n
theorem countP_lt {p q : Nat → Bool} : ∀ {l : List Nat}, (∀ x, p x = true → q x = true) → (∃ d, d ∈ l ∧ q d = true ∧ p d = false) → l.countP p < l.countP q
  | [], _, ⟨d, h, _⟩ => by simp at h
  | a :: l, hs, ⟨d, hm, h1, h2⟩ => by
    have hmono : l.countP p ≤ l.countP q := List.countP_mono_left fun x _ h => hs x h
    rw [List.countP_cons, List.countP_cons]
    rcases List.mem_cons.1 hm with e | e
    · subst e
      rw [h1, h2]
      simp; omega
    · have := countP_lt (l := l) hs ⟨d, e, h1, h2⟩
      cases ha : p a with
      | false => cases q a <;> simp <;> omega
      | true => rw [hs a ha]; simp; omega
def upP (A : Nat → Nat → Bool) (c : Nat) : Nat → Bool := fun d => decide (d ≠ c) && A c d
def mxl (f : Nat → Nat) (p : Nat → Bool) : Nat → Nat
  | 0 => 0
  | n + 1 => if p n then max (mxl f p n) (f n + 1) else mxl f p n
theorem mxl_ge {f : Nat → Nat} {p : Nat → Bool} {d : Nat} (hp : p d = true) : ∀ {n : Nat}, d < n → f d + 1 ≤ mxl f p n
  | n + 1, h => by
    rw [mxl]
    by_cases e : d = n
    · subst e; rw [if_pos hp]; omega
    · have := mxl_ge (f := f) hp (n := n) (by omega)
      split <;> omega
theorem mxl_ex {f : Nat → Nat} {p : Nat → Bool} : ∀ {n : Nat}, mxl f p n = 0 ∨ ∃ d, d < n ∧ p d = true ∧ mxl f p n = f d + 1
  | 0 => .inl rfl
  | n + 1 => by
    rw [mxl]
    split
    · rename_i hp
      rcases Nat.le_total (f n + 1) (mxl f p n) with h | h
      · rw [Nat.max_eq_left h]
        rcases mxl_ex (f := f) (p := p) (n := n) with h1 | ⟨d, h1, h2, h3⟩
        · exact .inl h1
        · exact .inr ⟨d, by omega, h2, h3⟩
      · rw [Nat.max_eq_right h]
        exact .inr ⟨n, by omega, hp, rfl⟩
    · rcases mxl_ex (f := f) (p := p) (n := n) with h1 | ⟨d, h1, h2, h3⟩
      · exact .inl h1
      · exact .inr ⟨d, by omega, h2, h3⟩
theorem mxl_congr {f g : Nat → Nat} {p : Nat → Bool} : ∀ {n : Nat}, (∀ d, d < n → p d = true → f d = g d) → mxl f p n = mxl g p n
  | 0, _ => rfl
  | n + 1, h => by
    rw [mxl, mxl, mxl_congr (n := n) (fun d hd hp => h d (by omega) hp)]
    split
    · rename_i hp; rw [h n (by omega) hp]
    · rfl
def hgt (A : Nat → Nat → Bool) (n : Nat) : Nat → Nat → Nat
  | 0, _ => 0
  | k + 1, c => mxl (hgt A n k) (upP A c) n
theorem hgt_ok {A : Nat → Nat → Bool} {n : Nat} (tr : ∀ c d e, A c d = true → A d e = true → A c e = true) (an : ∀ c d, A c d = true → A d c = true → c = d) : Ht A n (hgt A n n) := by
  have cl : ∀ c d, d < n → upP A c d = true → (List.range n).countP (upP A d) < (List.range n).countP (upP A c) := fun c d hd h => by
    simp only [upP, Bool.and_eq_true, decide_eq_true_eq] at h
    refine countP_lt (fun e he => ?_) ⟨d, List.mem_range.2 hd, by simp [upP, h.1, h.2], by simp [upP]⟩
    simp only [upP, Bool.and_eq_true, decide_eq_true_eq] at he ⊢
    refine ⟨fun e0 => ?_, tr c d e h.2 he.2⟩
    subst e0
    exact h.1 (an _ _ he.2 h.2)
  have st : ∀ N c k, (List.range n).countP (upP A c) ≤ N → N ≤ k → hgt A n k c = hgt A n N c := by
    intro N
    induction N with
    | zero =>
      intro c k h1 h2
      cases k with
      | zero => rfl
      | succ k =>
        rw [hgt, hgt]
        rcases mxl_ex (f := hgt A n k) (p := upP A c) (n := n) with h | ⟨d, hd, hp, _⟩
        · exact h
        · have := cl c d hd hp; omega
    | succ N ih =>
      intro c k h1 h2
      cases k with
      | zero => omega
      | succ k =>
        rw [hgt, hgt]
        refine mxl_congr fun d hd hp => ?_
        have := cl c d hd hp
        exact ih d k (by omega) (by omega)
  have cn : ∀ c, (List.range n).countP (upP A c) ≤ n := fun c => by
    have := List.countP_le_length (p := upP A c) (l := List.range n)
    rw [List.length_range] at this; exact this
  have fx : ∀ c, hgt A n n c = mxl (hgt A n n) (upP A c) n := fun c => by
    have := st n c (n + 1) (cn c) (by omega)
    rw [← this, hgt]
  have ub : ∀ k c, hgt A n k c ≤ (List.range n).countP (upP A c) := by
    intro k
    induction k with
    | zero => intro c; exact Nat.zero_le _
    | succ k ih =>
      intro c
      rw [hgt]
      rcases mxl_ex (f := hgt A n k) (p := upP A c) (n := n) with h | ⟨d, hd, hp, h⟩
      · omega
      · have := cl c d hd hp
        have := ih d
        omega
  refine ⟨fun c d hc hd hne ha => ?_, fun c hc => ?_, fun c hc => ?_⟩
  · rw [fx c]
    exact mxl_ge (f := hgt A n n) (by simp [upP, hne, ha]) hd
  · rcases mxl_ex (f := hgt A n n) (p := upP A c) (n := n) with h | ⟨d, hd, hp, h⟩
    · exact .inl (by rw [fx c]; exact h)
    · simp only [upP, Bool.and_eq_true, decide_eq_true_eq] at hp
      exact .inr ⟨d, hd, hp.1, hp.2, by rw [fx c]; exact h⟩
  · have h1 := ub n c
    have h2 : (List.range n).countP (upP A c) < (List.range n).countP (fun _ => true) := countP_lt (fun _ _ => rfl) ⟨c, List.mem_range.2 hc, rfl, by simp [upP]⟩
    have h3 := List.countP_le_length (p := fun _ => true) (l := List.range n)
    rw [List.length_range] at h3
    omega
def topH (h : Nat → Nat) : Nat → Nat
  | 0 => 0
  | n + 1 => max (topH h n) (h n)
theorem topH_le {h : Nat → Nat} {c : Nat} : ∀ {n : Nat}, c < n → h c ≤ topH h n
  | n + 1, hc => by
    rw [topH]
    by_cases e : c = n
    · subst e; omega
    · have := topH_le (h := h) (c := c) (n := n) (by omega); omega
theorem topH_ex {h : Nat → Nat} : ∀ {n : Nat}, topH h n = 0 ∨ ∃ c, c < n ∧ topH h n = h c
  | 0 => .inl rfl
  | n + 1 => by
    rw [topH]
    rcases Nat.le_total (h n) (topH h n) with e | e
    · rw [Nat.max_eq_left e]
      rcases topH_ex (h := h) (n := n) with h1 | ⟨c, h1, h2⟩
      · exact .inl h1
      · exact .inr ⟨c, by omega, h2⟩
    · rw [Nat.max_eq_right e]; exact .inr ⟨n, by omega, rfl⟩
theorem Ht.top_lt {A : Nat → Nat → Bool} {n : Nat} {h : Nat → Nat} (a : Ht A n h) (hn : 0 < n) : topH h n < n := by
  rcases topH_ex (h := h) (n := n) with e | ⟨c, e1, e2⟩
  · omega
  · have := a.lt c e1; omega
end Go.Proofs.YtkemihfaohkoeaaDoor.Am
set_option linter.unusedVariables false
open Go Go.Proofs.YtkemihfaohkoeaaDoor.Am
namespace Go.Proofs.YtkemihfaohkoeaaDoor.Am11d
theorem f25_F_0 {x0 : Int} {x1p x1o x1l x2p x2o x2l x3p x3o x3l : Nat} {H : AHeap} {prot : Nat} {x9a : Option Addr} {x9n x9c x11p x11o x11l : Nat} {x12 : Int} {x14a : Option Addr} {x14n x14c x16p x16o x16l : Nat} {x17 : Array Value} {x18a : Option Addr} {x18n x18c : Nat} {H1 : AHeap} {z0 : Int} {z1p z1o z1l : Nat} {z6 : Int} {H2 : AHeap} {x33a : Option Addr} {x33n x33c x37p x37o x37l : Nat} {H3 : AHeap} {x38a : Option Addr} {x38n x38c x40p x40o x40l : Nat} {x41 : Int} (h1 : getCells H x1p x1l x1o 1 = some [Value.slice x9a x9n x9c]) (h2 : aindexAddr cfg.P 24 (Value.slice x9a x9n x9c) (Value.int .i64 x0) = some (Value.pointer (some ⟨x11p, x11o, some x11l⟩))) (h3 : getCells H x11p x11l x11o 1 = some [Value.int .i64 x12]) (h4 : (x12 == 0) = true) (h5 : getCells H x2p x2l x2o 1 = some [Value.slice x14a x14n x14c]) (h6 : aindexAddr cfg.P 53 (Value.slice x14a x14n x14c) (Value.int .i64 x0) = some (Value.pointer (some ⟨x16p, x16o, some x16l⟩))) (h7 : getCells H x16p x16l x16o 8 = some x17.toList) (h8 : callInf cfg 26 [Value.agg x17] prot H = some (Value.slice x18a x18n x18c, H1)) (h9 : lpInf (lpOf cfg a25 0 prot H) ([Value.int .i64 x0, Value.pointer (some ⟨x1p, x1o, some x1l⟩), Value.pointer (some ⟨x3p, x3o, some x3l⟩), Value.int .i64 0, Value.slice x18a x18n x18c, Value.int .i64 (↑x18n : Int), Value.int .i64 0], H1) = some (Ex.exit 0, [Value.int .i64 z0, Value.pointer (some ⟨z1p, z1o, some z1l⟩), Value.int .i64 z6], H2)) (h10 : getCells H2 z1p z1l z1o 1 = some [Value.slice x33a x33n x33c]) (h11 : Fit .i64 (z6 + 1)) (h12 : aindexAddr cfg.P 24 (Value.slice x33a x33n x33c) (Value.int .i64 z0) = some (Value.pointer (some ⟨x37p, x37o, some x37l⟩))) (h13 : [Value.int .i64 (z6 + 1)].length = 1) (h14 : setCells H2 prot x37p x37l x37o [Value.int .i64 (z6 + 1)] = some H3) (h15 : getCells H3 z1p z1l z1o 1 = some [Value.slice x38a x38n x38c]) (h16 : aindexAddr cfg.P 24 (Value.slice x38a x38n x38c) (Value.int .i64 z0) = some (Value.pointer (some ⟨x40p, x40o, some x40l⟩))) (h17 : getCells H3 x40p x40l x40o 1 = some [Value.int .i64 x41]) : callInf cfg 25 [.int .i64 x0, .pointer (some ⟨x1p, x1o, some x1l⟩), .pointer (some ⟨x2p, x2o, some x2l⟩), .pointer (some ⟨x3p, x3o, some x3l⟩)] prot H = some (Value.int .i64 x41, H3) :=
  fn_of2 a25 [.v (.slice x9a x9n x9c), .v (.pointer (some ⟨x11p, x11o, some x11l⟩)), .v (.int .i64 x12), .e, .b true, .v (.slice x14a x14n x14c), .v (.pointer (some ⟨x16p, x16o, some x16l⟩)), .v (.agg x17), .r (.slice x18a x18n x18c) H1, .e, .lo (.exit 0, [.int .i64 z0, .pointer (some ⟨z1p, z1o, some z1l⟩), .int .i64 z6], H2), .v (.slice x33a x33n x33c), .e, .v (.pointer (some ⟨x37p, x37o, some x37l⟩)), .h H3, .v (.slice x38a x38n x38c), .v (.pointer (some ⟨x40p, x40o, some x40l⟩)), .v (.int .i64 x41)] (ai h1 (ai h2 (ai h3 (ai h4 (ai h5 (ai h6 (ai h7 (ai h8 (ai h9 (ai h10 (ai h11 (ai h12 (ai h13 (ai h14 (ai h15 (ai h16 (ai h17 (Eq.refl ((Value.int .i64 x41, H3) : Value × AHeap))))))))))))))))))) (by kernel_rfl) rfl
theorem f25_F_1 {x0 : Int} {x1p x1o x1l x2p x2o x2l x3p x3o x3l : Nat} {H : AHeap} {prot : Nat} {x9a : Option Addr} {x9n x9c x11p x11o x11l : Nat} {x12 : Int} {x38a : Option Addr} {x38n x38c x40p x40o x40l : Nat} {x41 : Int} (h1 : getCells H x1p x1l x1o 1 = some [Value.slice x9a x9n x9c]) (h2 : aindexAddr cfg.P 24 (Value.slice x9a x9n x9c) (Value.int .i64 x0) = some (Value.pointer (some ⟨x11p, x11o, some x11l⟩))) (h3 : getCells H x11p x11l x11o 1 = some [Value.int .i64 x12]) (h4 : (x12 == 0) = false) (h5 : getCells H x1p x1l x1o 1 = some [Value.slice x38a x38n x38c]) (h6 : aindexAddr cfg.P 24 (Value.slice x38a x38n x38c) (Value.int .i64 x0) = some (Value.pointer (some ⟨x40p, x40o, some x40l⟩))) (h7 : getCells H x40p x40l x40o 1 = some [Value.int .i64 x41]) : callInf cfg 25 [.int .i64 x0, .pointer (some ⟨x1p, x1o, some x1l⟩), .pointer (some ⟨x2p, x2o, some x2l⟩), .pointer (some ⟨x3p, x3o, some x3l⟩)] prot H = some (Value.int .i64 x41, H) :=
  fn_of2 a25 [.v (.slice x9a x9n x9c), .v (.pointer (some ⟨x11p, x11o, some x11l⟩)), .v (.int .i64 x12), .e, .b false, .v (.slice x38a x38n x38c), .v (.pointer (some ⟨x40p, x40o, some x40l⟩)), .v (.int .i64 x41)] (ai h1 (ai h2 (ai h3 (ai h4 (ai h5 (ai h6 (ai h7 (Eq.refl ((Value.int .i64 x41, H) : Value × AHeap))))))))) (by kernel_rfl) rfl
theorem f25_L0_0 {x0 : Int} {x1p x1o x1l x3p x3o x3l : Nat} {x6 : Int} {x18a : Option Addr} {x18n x18c : Nat} {x19 x20 : Int} {H0 : AHeap} {prot : Nat} {H : AHeap} {x22p x22o x22l : Nat} {x23 : Int} {x28ap x28ao x28al x28bp x28bo x28bl x28cp x28co x28cl : Nat} {x30 : Int} {H2 : AHeap} (h1 : x20 < x19) (h2 : aindexAddr cfg.P 24 (Value.slice x18a x18n x18c) (Value.int .i64 x20) = some (Value.pointer (some ⟨x22p, x22o, some x22l⟩))) (h3 : getCells H x22p x22l x22o 1 = some [Value.int .i64 x23]) (h4 : (x23 != x0) = true) (h5 : getCells H x3p x3l x3o 1 = some [Value.func (Fn.func 25) { toList := [] } { toList := [Value.pointer (some ⟨x28ap, x28ao, some x28al⟩), Value.pointer (some ⟨x28bp, x28bo, some x28bl⟩), Value.pointer (some ⟨x28cp, x28co, some x28cl⟩)] }]) (h6 : callInf cfg 25 [Value.int .i64 x23, Value.pointer (some ⟨x28ap, x28ao, some x28al⟩), Value.pointer (some ⟨x28bp, x28bo, some x28bl⟩), Value.pointer (some ⟨x28cp, x28co, some x28cl⟩)] prot H = some (Value.int .i64 x30, H2)) (h7 : Fit .i64 (x20 + 1)) : lpOf cfg a25 0 prot H0 ([.int .i64 x0, .pointer (some ⟨x1p, x1o, some x1l⟩), .pointer (some ⟨x3p, x3o, some x3l⟩), .int .i64 x6, .slice x18a x18n x18c, .int .i64 x19, .int .i64 x20], H) = some (Sum.inl ([Value.int .i64 x0, Value.pointer (some ⟨x1p, x1o, some x1l⟩), Value.pointer (some ⟨x3p, x3o, some x3l⟩), Value.int .i64 (if x30 > x6 then x30 else x6), Value.slice x18a x18n x18c, Value.int .i64 x19, Value.int .i64 (x20 + 1)], H2)) :=
  lp_of2 [.e, .b true, .v (.pointer (some ⟨x22p, x22o, some x22l⟩)), .v (.int .i64 x23), .e, .b true, .v (.func (.func 25) #[] #[.pointer (some ⟨x28ap, x28ao, some x28al⟩), .pointer (some ⟨x28bp, x28bo, some x28bl⟩), .pointer (some ⟨x28cp, x28co, some x28cl⟩)]), .r (.int .i64 x30) H2, .e, .e] (ai (decide_eq_true h1) (ai h2 (ai h3 (ai h4 (ai h5 (ai h6 (ai h7 (Eq.refl (Sum.inl ([Value.int .i64 x0, Value.pointer (some ⟨x1p, x1o, some x1l⟩), Value.pointer (some ⟨x3p, x3o, some x3l⟩), Value.int .i64 (if x30 > x6 then x30 else x6), Value.slice x18a x18n x18c, Value.int .i64 x19, Value.int .i64 (x20 + 1)], H2) : LS ⊕ LO))))))))) (by kernel_rfl)
theorem f25_L0_1 {x0 : Int} {x1p x1o x1l x3p x3o x3l : Nat} {x6 : Int} {x18a : Option Addr} {x18n x18c : Nat} {x19 x20 : Int} {H0 : AHeap} {prot : Nat} {H : AHeap} {x22p x22o x22l : Nat} {x23 : Int} (h1 : x20 < x19) (h2 : aindexAddr cfg.P 24 (Value.slice x18a x18n x18c) (Value.int .i64 x20) = some (Value.pointer (some ⟨x22p, x22o, some x22l⟩))) (h3 : getCells H x22p x22l x22o 1 = some [Value.int .i64 x23]) (h4 : (x23 != x0) = false) (h5 : Fit .i64 (x20 + 1)) : lpOf cfg a25 0 prot H0 ([.int .i64 x0, .pointer (some ⟨x1p, x1o, some x1l⟩), .pointer (some ⟨x3p, x3o, some x3l⟩), .int .i64 x6, .slice x18a x18n x18c, .int .i64 x19, .int .i64 x20], H) = some (Sum.inl ([Value.int .i64 x0, Value.pointer (some ⟨x1p, x1o, some x1l⟩), Value.pointer (some ⟨x3p, x3o, some x3l⟩), Value.int .i64 x6, Value.slice x18a x18n x18c, Value.int .i64 x19, Value.int .i64 (x20 + 1)], H)) :=
  lp_of2 [.e, .b true, .v (.pointer (some ⟨x22p, x22o, some x22l⟩)), .v (.int .i64 x23), .e, .b false, .e] (ai (decide_eq_true h1) (ai h2 (ai h3 (ai h4 (ai h5 (Eq.refl (Sum.inl ([Value.int .i64 x0, Value.pointer (some ⟨x1p, x1o, some x1l⟩), Value.pointer (some ⟨x3p, x3o, some x3l⟩), Value.int .i64 x6, Value.slice x18a x18n x18c, Value.int .i64 x19, Value.int .i64 (x20 + 1)], H) : LS ⊕ LO))))))) (by kernel_rfl)
theorem f25_L0_2 {x0 : Int} {x1p x1o x1l x3p x3o x3l : Nat} {x6 : Int} {x18a : Option Addr} {x18n x18c : Nat} {x19 x20 : Int} {H0 : AHeap} {prot : Nat} {H : AHeap} (h1 : ¬(x20 < x19)) : lpOf cfg a25 0 prot H0 ([.int .i64 x0, .pointer (some ⟨x1p, x1o, some x1l⟩), .pointer (some ⟨x3p, x3o, some x3l⟩), .int .i64 x6, .slice x18a x18n x18c, .int .i64 x19, .int .i64 x20], H) = some (Sum.inr (Ex.exit 0, [Value.int .i64 x0, Value.pointer (some ⟨x1p, x1o, some x1l⟩), Value.int .i64 x6], H)) :=
  lp_of2 [.e, .b false] (ai (decide_eq_false h1) (Eq.refl (Sum.inr (Ex.exit 0, [Value.int .i64 x0, Value.pointer (some ⟨x1p, x1o, some x1l⟩), Value.int .i64 x6], H) : LS ⊕ LO))) (by kernel_rfl)
end Go.Proofs.YtkemihfaohkoeaaDoor.Am11d
set_option linter.unusedVariables false
open Go Go.Proofs.YtkemihfaohkoeaaDoor.Am
namespace Go.Proofs.YtkemihfaohkoeaaDoor.Am11d
theorem f7_F_0 {x0a : Option Addr} {x0n x0c : Nat} {H : AHeap} {prot : Nat} {x11 : Int} (h1 : callInf cfg 22 [Value.slice x0a x0n x0c] (List.length H) H = some (Value.int .i64 x11, H)) (h2 : (x11 != 0) = true) : callInf cfg 7 [.slice x0a x0n x0c] prot H = some (Value.tuple { toList := [Value.int .i64 0, Value.int .i64 x11] }, H) :=
  fn_of2 a7 [.v (.int .i64 x11), .e, .b true] (ai h1 (ai h2 (Eq.refl ((Value.tuple { toList := [Value.int .i64 0, Value.int .i64 x11] }, H) : Value × AHeap)))) (by kernel_rfl) rfl
theorem f7_F_1 {x0a : Option Addr} {x0n x0c : Nat} {H : AHeap} {prot : Nat} {x11 : Int} {x16a : Option Addr} {x16n x16c : Nat} {H1 H2 : AHeap} {x17a : Option Addr} {x17n x17c : Nat} {H3 H4 : AHeap} {x21a : Option Addr} {x21n x21c : Nat} {z8 : Int} {H5 : AHeap} (h1 : callInf cfg 22 [Value.slice x0a x0n x0c] (List.length H) H = some (Value.int .i64 x11, H)) (h2 : (x11 != 0) = false) (h3 : callInf cfg 24 [Value.slice x0a x0n x0c] (List.length H) H = some (Value.slice x16a x16n x16c, H1)) (h4 : [Value.slice x16a x16n x16c].length = 1) (h5 : setCells (H1 ++ [vo [Value.slice none 0 0] 53]) (List.length H) (List.length H1) [Value.slice none 0 0].length 0 [Value.slice x16a x16n x16c] = some H2) (h6 : getCells H2 (List.length H1) [Value.slice none 0 0].length 0 1 = some [Value.slice x17a x17n x17c]) (h7 : 0 ≤ (↑x17n : Int)) (h8 : (↑x17n : Int) = (↑x17n : Int)) (h9 : (↑x17n : Int) ≤ 9223372036854775807) (h10 : (↑8 : Int) * (↑x17n : Int) ≤ 2 ^ 48) (h11 : [Value.slice (some ⟨List.length H2, 0, some ((↑x17n : Int).toNat * 1)⟩) (↑x17n : Int).toNat (↑x17n : Int).toNat].length = 1) (h12 : setCells (H2 ++ [AObj.cells (repCells [Value.int .i64 0] (↑x17n : Int).toNat) 3 (repCells [Value.int .i64 0] (↑x17n : Int).toNat).length OMode.row] ++ [vo [Value.slice none 0 0] 24]) (List.length H) (List.length (H2 ++ [AObj.cells (repCells [Value.int .i64 0] (↑x17n : Int).toNat) 3 (repCells [Value.int .i64 0] (↑x17n : Int).toNat).length OMode.row])) [Value.slice none 0 0].length 0 [Value.slice (some ⟨List.length H2, 0, some ((↑x17n : Int).toNat * 1)⟩) (↑x17n : Int).toNat (↑x17n : Int).toNat] = some H3) (h13 : [Value.func (Fn.func 25) { toList := [] } { toList := [Value.pointer (some ⟨List.length (H2 ++ [AObj.cells (repCells [Value.int .i64 0] (↑x17n : Int).toNat) 3 (repCells [Value.int .i64 0] (↑x17n : Int).toNat).length OMode.row]), 0, some [Value.slice none 0 0].length⟩), Value.pointer (some ⟨List.length H1, 0, some [Value.slice none 0 0].length⟩), Value.pointer (some ⟨List.length H3, 0, some [Value.nilFunc].length⟩)] }].length = 1) (h14 : setCells (H3 ++ [vo [Value.nilFunc] 55]) (List.length H) (List.length H3) [Value.nilFunc].length 0 [Value.func (Fn.func 25) { toList := [] } { toList := [Value.pointer (some ⟨List.length (H2 ++ [AObj.cells (repCells [Value.int .i64 0] (↑x17n : Int).toNat) 3 (repCells [Value.int .i64 0] (↑x17n : Int).toNat).length OMode.row]), 0, some [Value.slice none 0 0].length⟩), Value.pointer (some ⟨List.length H1, 0, some [Value.slice none 0 0].length⟩), Value.pointer (some ⟨List.length H3, 0, some [Value.nilFunc].length⟩)] }] = some H4) (h15 : getCells H4 (List.length H1) [Value.slice none 0 0].length 0 1 = some [Value.slice x21a x21n x21c]) (h16 : lpInf (lpOf cfg a7 0 prot H) ([Value.pointer (some ⟨List.length H3, 0, some [Value.nilFunc].length⟩), Value.int .i64 1, Value.int .i64 (↑x21n : Int), Value.int .i64 0], H4) = some (Ex.exit 0, [Value.int .i64 z8], H5)) (h17 : Fit .i64 (z8 - 1)) : callInf cfg 7 [.slice x0a x0n x0c] prot H = some (Value.tuple { toList := [Value.int .i64 (z8 - 1), Value.int .i64 0] }, H) :=
  fn_of2 a7 [.v (.int .i64 x11), .e, .b false, .r (.slice x16a x16n x16c) H1, .e, .h H2, .v (.slice x17a x17n x17c), .e, .e, .e, .h H3, .e, .h H4, .v (.slice x21a x21n x21c), .e, .lo (.exit 0, [.int .i64 z8], H5), .e] (ai h1 (ai h2 (ai h3 (ai h4 (ai h5 (ai h6 (ai h7 (ai h8 (ai h9 (ai h10 (ai h11 (ai h12 (ai h13 (ai h14 (ai h15 (ai h16 (ai h17 (Eq.refl ((Value.tuple { toList := [Value.int .i64 (z8 - 1), Value.int .i64 0] }, H) : Value × AHeap))))))))))))))))))) (by kernel_rfl) rfl
theorem f7_L0_0 {x7p x7o x7l : Nat} {x8 x22 x23 : Int} {H0 : AHeap} {prot : Nat} {H : AHeap} {x27ap x27ao x27al x27bp x27bo x27bl x27cp x27co x27cl : Nat} {x29 : Int} {H2 : AHeap} (h1 : x23 < x22) (h2 : getCells H x7p x7l x7o 1 = some [Value.func (Fn.func 25) { toList := [] } { toList := [Value.pointer (some ⟨x27ap, x27ao, some x27al⟩), Value.pointer (some ⟨x27bp, x27bo, some x27bl⟩), Value.pointer (some ⟨x27cp, x27co, some x27cl⟩)] }]) (h3 : callInf cfg 25 [Value.int .i64 x23, Value.pointer (some ⟨x27ap, x27ao, some x27al⟩), Value.pointer (some ⟨x27bp, x27bo, some x27bl⟩), Value.pointer (some ⟨x27cp, x27co, some x27cl⟩)] (List.length H0) H = some (Value.int .i64 x29, H2)) (h4 : Fit .i64 (x23 + 1)) : lpOf cfg a7 0 prot H0 ([.pointer (some ⟨x7p, x7o, some x7l⟩), .int .i64 x8, .int .i64 x22, .int .i64 x23], H) = some (Sum.inl ([Value.pointer (some ⟨x7p, x7o, some x7l⟩), Value.int .i64 (if x29 > x8 then x29 else x8), Value.int .i64 x22, Value.int .i64 (x23 + 1)], H2)) :=
  lp_of2 [.e, .b true, .v (.func (.func 25) #[] #[.pointer (some ⟨x27ap, x27ao, some x27al⟩), .pointer (some ⟨x27bp, x27bo, some x27bl⟩), .pointer (some ⟨x27cp, x27co, some x27cl⟩)]), .r (.int .i64 x29) H2, .e, .e] (ai (decide_eq_true h1) (ai h2 (ai h3 (ai h4 (Eq.refl (Sum.inl ([Value.pointer (some ⟨x7p, x7o, some x7l⟩), Value.int .i64 (if x29 > x8 then x29 else x8), Value.int .i64 x22, Value.int .i64 (x23 + 1)], H2) : LS ⊕ LO)))))) (by kernel_rfl)
theorem f7_L0_1 {x7p x7o x7l : Nat} {x8 x22 x23 : Int} {H0 : AHeap} {prot : Nat} {H : AHeap} (h1 : ¬(x23 < x22)) : lpOf cfg a7 0 prot H0 ([.pointer (some ⟨x7p, x7o, some x7l⟩), .int .i64 x8, .int .i64 x22, .int .i64 x23], H) = some (Sum.inr (Ex.exit 0, [Value.int .i64 x8], H)) :=
  lp_of2 [.e, .b false] (ai (decide_eq_false h1) (Eq.refl (Sum.inr (Ex.exit 0, [Value.int .i64 x8], H) : LS ⊕ LO))) (by kernel_rfl)
end Go.Proofs.YtkemihfaohkoeaaDoor.Am11d
namespace Go.Proofs.YtkemihfaohkoeaaDoor.Am11d
open Go Go.Proofs.YtkemihfaohkoeaaDoor.Am
/-! Depth: the memo and the walk. -/
abbrev fDp (p1 p2 p3 : Nat) : Value := .func (.func 25) #[] #[.pointer (some ⟨p1, 0, some 1⟩), .pointer (some ⟨p2, 0, some 1⟩), .pointer (some ⟨p3, 0, some 1⟩)]
theorem _root_.Go.Proofs.YtkemihfaohkoeaaDoor.Am.OwnE.ne {H : AHeap} {e n b od : Nat} {x : Value} {cs : List Value} (h : OwnE H e x n cs b) (hb : od < b) : ∀ id off L n' c, x = .slice (some ⟨id, off, some L⟩) n' c → some od ≠ some id := by
  intro id off L n' c hx e1
  rw [← Option.some.inj e1] at hx
  rcases h with ⟨o, h, h2⟩ | ⟨_, _, id', h3, h4, _⟩
  · cases o with
    | none =>
      rcases h.2.2 with h5 | h5
      · rw [h5] at hx; cases hx
      · rw [h5] at hx; unfold emptySlice at hx; injection hx with h6 _ _; injection h6 with h6; injection h6 with _ _ h6; cases h6
    | some id2 =>
      have h5 := h.2.2.1
      rw [h5] at hx
      injection hx with h6 _ _
      injection h6 with h6
      injection h6 with h7 _ _
      have := h2 id2 rfl
      omega
  · rw [h3] at hx
    injection hx with h6 _ _
    injection h6 with h6
    injection h6 with h7 _ _
    omega
structure WD (B : Nat) (H : AHeap) (n : Nat) (A : Nat → Nat → Bool) (h : Nat → Nat) (xd xs : Value) (od p1 p2 p3 : Nat) (D : Nat → Nat) : Prop where
  g1 : H[p1]? = some (.cells [xd] 24 1 .var)
  g2 : H[p2]? = some (.cells [xs] 53 1 .var)
  g3 : H[p3]? = some (.cells [fDp p1 p2 p3] 55 1 .var)
  dp : Own H 3 1 xd (some od) n (il (nl (farL D n)))
  rd : Rd H 46 8 xs n (sets A n)
  n1 : od ≠ p1
  n2 : od ≠ p2
  n3 : od ≠ p3
  lo : B ≤ od
  ok : ∀ c, c < n → D c = 0 ∨ D c = h c + 1
theorem WD.lt {B : Nat} {H : AHeap} {n : Nat} {A : Nat → Nat → Bool} {h : Nat → Nat} {xd xs : Value} {od p1 p2 p3 : Nat} {D : Nat → Nat} (w : WD B H n A h xd xs od p1 p2 p3 D) : od < H.length := by
  obtain ⟨_, _, _, _, _, g⟩ := w.dp
  exact (List.getElem?_eq_some_iff.1 g).1
theorem WD.stay {B : Nat} {H H' : AHeap} {n : Nat} {A : Nat → Nat → Bool} {h : Nat → Nat} {xd xs : Value} {od p1 p2 p3 : Nat} {D : Nat → Nat} (w : WD B H n A h xd xs od p1 p2 p3 D) (s : Stay none H H') : WD B H' n A h xd xs od p1 p2 p3 D :=
  ⟨by rw [s.2 _ (List.getElem?_eq_some_iff.1 w.g1).1 (by simp)]; exact w.g1, by rw [s.2 _ (List.getElem?_eq_some_iff.1 w.g2).1 (by simp)]; exact w.g2, by rw [s.2 _ (List.getElem?_eq_some_iff.1 w.g3).1 (by simp)]; exact w.g3,
    w.dp.stay s (fun _ _ h => by cases h), w.rd.stay s, w.n1, w.n2, w.n3, w.lo, w.ok⟩
theorem setF_at (F : Nat → Nat) (u c v : Nat) : setF F u c v = if v = u then c else F v := by unfold setF; rfl
/-- One height is noted. -/
theorem WD.put {B : Nat} {H : AHeap} {n : Nat} {A : Nat → Nat → Bool} {h : Nat → Nat} {xd xs : Value} {od p1 p2 p3 : Nat} {D : Nat → Nat} (w : WD B H n A h xd xs od p1 p2 p3 D) {c : Nat} (hc : c < n) {prot : Nat} (hp : prot ≤ od) :
    ∃ L H', aindexAddr cfg.P 24 xd (.int .i64 (c : Nat)) = some (.pointer (some ⟨od, c, some L⟩)) ∧ setCells H prot od L c [.int .i64 ((h c + 1 : Nat) : Int)] = some H' ∧ WD B H' n A h xd xs od p1 p2 p3 (setF D c (h c + 1)) ∧ Stay (some od) H H' := by
  obtain ⟨id, H2, e, s1, s2, s3, s4, s5⟩ := own_setS T34 w.dp (i := c) (j := 0) hc (vs := [.int .i64 ((h c + 1 : Nat) : Int)]) (by simp) rfl (prot := prot) (fun id e => by cases e; exact hp)
  cases e
  rw [put_il _ (by rw [farL_len]; exact hc), farL_set _ hc] at s3
  rw [Nat.mul_one] at s1
  rw [Nat.mul_one, Nat.add_zero] at s2
  obtain ⟨_, _, _, _, _, gd⟩ := w.dp
  refine ⟨_, H2, s1, s2, ⟨?_, ?_, ?_, s3, w.rd.stayE gd (by decide) s4, w.n1, w.n2, w.n3, w.lo, fun v hv => ?_⟩, s4⟩
  · rw [s4.2 _ (List.getElem?_eq_some_iff.1 w.g1).1 (fun e => w.n1 (Option.some.inj e))]; exact w.g1
  · rw [s4.2 _ (List.getElem?_eq_some_iff.1 w.g2).1 (fun e => w.n2 (Option.some.inj e))]; exact w.g2
  · rw [s4.2 _ (List.getElem?_eq_some_iff.1 w.g3).1 (fun e => w.n3 (Option.some.inj e))]; exact w.g3
  · rw [setF_at]
    split
    · rename_i e; subst e; exact .inr rfl
    · exact w.ok v hv
theorem loop25 {B n : Nat} {A : Nat → Nat → Bool} {h : Nat → Nat} (hn : n ≤ 512) (hh : Ht A n h) {xd xs : Value} {od p1 p2 p3 prot c : Nat} (hp : prot ≤ od) (hc : c < n) (hA : ∀ c d, A c d = true → d < n)
    (ih : ∀ d H D, d < n → h d < h c → WD B H n A h xd xs od p1 p2 p3 D → ∃ D' H', callInf cfg 25 [.int .i64 d, .pointer (some ⟨p1, 0, some 1⟩), .pointer (some ⟨p2, 0, some 1⟩), .pointer (some ⟨p3, 0, some 1⟩)] prot H = some (.int .i64 ((h d + 1 : Nat) : Int), H') ∧ WD B H' n A h xd xs od p1 p2 p3 D' ∧ Stay (some od) H H')
    {H0 : AHeap} {x : Value} {l : List Nat} (hl : l = lst (A c) 512) (hne : ∀ id off L n' c, x = .slice (some ⟨id, off, some L⟩) n' c → some od ≠ some id) : ∀ (d i m : Nat) (H : AHeap) (D : Nat → Nat), i + d = l.length → Rd H 3 1 x l.length (il (nl l)) → WD B H n A h xd xs od p1 p2 p3 D →
      (∀ j u, j < i → l[j]? = some u → u ≠ c → h u + 1 ≤ m) → (m = 0 ∨ ∃ u, u < n ∧ u ≠ c ∧ A c u = true ∧ m = h u + 1) →
    ∃ D' H', lpInf (lpOf cfg a25 0 prot H0) ([.int .i64 c, .pointer (some ⟨p1, 0, some 1⟩), .pointer (some ⟨p3, 0, some 1⟩), .int .i64 m, x, .int .i64 l.length, .int .i64 i], H) = some (.exit 0, [.int .i64 c, .pointer (some ⟨p1, 0, some 1⟩), .int .i64 (h c)], H') ∧ WD B H' n A h xd xs od p1 p2 p3 D' ∧ Stay (some od) H H'
  | 0, i, m, H, D, hi, hr, hw, hm1, hm2 => by
    have hmc : m = h c := by
      have le1 : m ≤ h c := by
        rcases hm2 with e | ⟨u, u1, u2, u3, e⟩
        · omega
        · have := hh.ge c u hc u1 u2 u3; omega
      rcases hh.ex c hc with e | ⟨u, u1, u2, u3, e⟩
      · omega
      · have hu : u ∈ l := by rw [hl]; exact lst_mem.2 ⟨by omega, u3⟩
        obtain ⟨j, hj⟩ := List.getElem?_of_mem hu
        have := hm1 j u (by have := (List.getElem?_eq_some_iff.1 hj).1; omega) hj u2
        omega
    subst hmc
    obtain ⟨_, _, hre⟩ := hr.len
    refine ⟨D, H, ?_, hw, Stay.refl _ _⟩
    rw [hre]
    exact lp_last (f25_L0_2 (by omega))
  | d + 1, i, m, H, D, hi, hr, hw, hm1, hm2 => by
    have hil : i < l.length := by omega
    have hll : l.length ≤ 512 := by rw [hl]; exact lst_len _ _
    obtain ⟨u, hu⟩ : ∃ u, l[i]? = some u := ⟨_, List.getElem?_eq_getElem hil⟩
    have hum : u ∈ l := List.mem_of_getElem? hu
    have hu2 : A c u = true := by rw [hl] at hum; exact (lst_mem.1 hum).2
    have hun := hA c u hu2
    have hcs : (il (nl l))[i]? = some (.int .i64 ((u : Nat) : Int)) := by
      unfold il nl; rw [List.getElem?_map, List.getElem?_map, hu]; rfl
    obtain ⟨id, L, a1, a2⟩ := rd_at T34 hr hcs
    have fi : Fit .i64 ((i : Int) + 1) := fit64 (by omega) (by omega)
    obtain ⟨ax, cx, hre⟩ := hr.len
    by_cases e : u = c
    · obtain ⟨D', H', z1, z2, z3⟩ := loop25 hn hh hp hc hA ih (H0 := H0) hl hne d (i + 1) m H D (by omega) hr hw (fun j v hj hv hvc => by
        by_cases ej : j = i
        · subst ej; rw [hu] at hv; cases hv; exact absurd e hvc
        · exact hm1 j v (by omega) hv hvc) hm2
      refine ⟨D', H', ?_, z2, z3⟩
      rw [hre] at a1 z1 ⊢
      exact lp_next (f25_L0_1 (by omega) a1 a2 (by simp [e]) fi) z1
    · have hlt := hh.ge c u hc hun e hu2
      obtain ⟨D1, H1, c1, c2, c3⟩ := ih u H D hun (by omega) hw
      have hif : ((if ((h u + 1 : Nat) : Int) > ((m : Nat) : Int) then ((h u + 1 : Nat) : Int) else ((m : Nat) : Int))) = ((max (h u + 1) m : Nat) : Int) := by split <;> omega
      obtain ⟨D', H', z1, z2, z3⟩ := loop25 hn hh hp hc hA ih (H0 := H0) hl hne d (i + 1) (max (h u + 1) m) H1 D1 (by omega) (hr.stayNe c3 hne) c2 (fun j v hj hv hvc => by
        by_cases ej : j = i
        · subst ej; rw [hu] at hv; cases hv; omega
        · have := hm1 j v (by omega) hv hvc; omega) (by
        rcases Nat.le_total (h u + 1) m with g | g
        · rw [Nat.max_eq_right g]; exact hm2
        · rw [Nat.max_eq_left g]; exact .inr ⟨u, hun, e, hu2, rfl⟩)
      refine ⟨D', H', ?_, z2, c3.trans z3⟩
      rw [← hif] at z1
      have g3 := one_get hw.g3
      rw [hre] at a1 z1 ⊢
      exact lp_next (f25_L0_0 (by omega) a1 a2 (by simp; omega) g3 c1 fi) z1
theorem cWalk {B n : Nat} {A : Nat → Nat → Bool} {h : Nat → Nat} (hn : n ≤ 512) (hh : Ht A n h) {xd xs : Value} {od p1 p2 p3 prot : Nat} (hp : prot ≤ od) (hA : ∀ c d, A c d = true → d < n) : ∀ N c H D, c < n → h c < N → WD B H n A h xd xs od p1 p2 p3 D →
    ∃ D' H', callInf cfg 25 [.int .i64 c, .pointer (some ⟨p1, 0, some 1⟩), .pointer (some ⟨p2, 0, some 1⟩), .pointer (some ⟨p3, 0, some 1⟩)] prot H = some (.int .i64 ((h c + 1 : Nat) : Int), H') ∧ WD B H' n A h xd xs od p1 p2 p3 D' ∧ Stay (some od) H H'
  | 0, c, H, D, _, h0, _ => by omega
  | N + 1, c, H, D, hc, hN, hw => by
    have hlt := hh.lt c hc
    have g1 := one_get hw.g1
    obtain ⟨id, L, a1, a2⟩ := own_at T34 hw.dp (farL_get hc)
    obtain ⟨ad, cd, hd⟩ := hw.dp.len
    by_cases h0 : D c = 0
    · have g2 := one_get hw.g2
      obtain ⟨i2, L2, b1, b2⟩ := rd_atS T46 hw.rd hc
      have b2 := b2 0 8 (Nat.le_refl _)
      rw [Nat.add_zero, sets_get A n hc] at b2
      obtain ⟨x, H1, l1, l2, l3⟩ := cList (A c) prot H
      have hw1 := hw.stay l3
      obtain ⟨D1, H2, z1, z2, z3⟩ := loop25 hn hh (B := B) hp hc hA (fun d H D h1 h2 h3 => cWalk hn hh hp hA N d H D h1 (by omega) h3) (H0 := H) rfl (OwnE.ne l2 hw.lt) (lst (A c) 512).length 0 0 H1 D (by omega) l2.rd hw1 (fun j u hj => by omega) (.inl rfl)
      obtain ⟨L3, H3, e1, e2, e3, e4⟩ := z2.put hc hp
      obtain ⟨i5, L5, q1, q2⟩ := own_at T34 e3.dp (farL_get hc)
      rw [setF_at, if_pos rfl] at q2
      have sx : Stay (some od) H H1 := ⟨l3.1, fun q hq _ => l3.2 q hq (by simp)⟩
      refine ⟨_, H3, ?_, e3, (sx.trans z3).trans e4⟩
      obtain ⟨ax, cx, hx⟩ := l2.rd.len
      obtain ⟨ay, cy, hs⟩ := hw.rd.len
      rw [h0] at a2
      have gg1 := one_get z2.g1
      have gg3 := one_get e3.g1
      subst hx; subst hs; subst hd
      have e2' : setCells H2 prot od L3 c [.int .i64 ((h c : Int) + 1)] = some H3 := by
        rw [show ((h c : Int) + 1) = ((h c + 1 : Nat) : Int) by push_cast; rfl]; exact e2
      exact f25_F_0 (x17 := setA (A c)) g1 a1 a2 (by simp) g2 b1 b2 l1 z1 gg1 (fit64 (by omega) (by omega)) e1 rfl e2' gg3 q1 q2
    · have hok : D c = h c + 1 := by rcases hw.ok c hc with e | e; exact absurd e h0; exact e
      rw [hok] at a2
      refine ⟨D, H, ?_, hw, Stay.refl _ _⟩
      subst hd
      exact f25_F_1 g1 a1 a2 (by simp; omega) g1 a1 a2
end Go.Proofs.YtkemihfaohkoeaaDoor.Am11d
namespace Go.Proofs.YtkemihfaohkoeaaDoor.Am11d
open Go Go.Proofs.YtkemihfaohkoeaaDoor.Am
/-! Depth. -/
theorem loop7 {H0 : AHeap} {n : Nat} {A : Nat → Nat → Bool} {h : Nat → Nat} (hn : n ≤ 512) (hh : Ht A n h) (hA : ∀ c d, A c d = true → d < n) {xd xs : Value} {od p1 p2 p3 prot : Nat} : ∀ (d i : Nat) (H : AHeap) (D : Nat → Nat), i + d = n → WD H0.length H n A h xd xs od p1 p2 p3 D →
    ∃ H', lpInf (lpOf cfg a7 0 prot H0) ([.pointer (some ⟨p3, 0, some 1⟩), .int .i64 ((1 + topH h i : Nat) : Int), .int .i64 n, .int .i64 i], H) = some (.exit 0, [.int .i64 ((1 + topH h n : Nat) : Int)], H')
  | 0, i, H, D, hi, hw => by
    have : i = n := by omega
    subst this
    exact ⟨H, lp_last (f7_L0_1 (by omega))⟩
  | d + 1, i, H, D, hi, hw => by
    obtain ⟨D1, H1, c1, c2, c3⟩ := cWalk hn hh (B := H0.length) hw.lo hA (h i + 1) i H D (by omega) (by omega) hw
    obtain ⟨H', z1⟩ := loop7 hn hh hA (prot := prot) d (i + 1) H1 D1 (by omega) c2
    refine ⟨H', ?_⟩
    have hif : (if ((h i + 1 : Nat) : Int) > ((1 + topH h i : Nat) : Int) then ((h i + 1 : Nat) : Int) else ((1 + topH h i : Nat) : Int)) = ((1 + topH h (i + 1) : Nat) : Int) := by
      rw [topH]; split <;> omega
    rw [← hif] at z1
    exact lp_next (f7_L0_0 (by omega) (one_get hw.g3) c1 (fit64 (by omega) (by omega))) z1
noncomputable def hG (G : List (List Int)) : Nat → Nat := hgt (abv G) (comp G).2 (comp G).2
theorem abv_lt {G : List (List Int)} {c d : Nat} (h : abv G c d = true) : c < (comp G).2 ∧ d < (comp G).2 := by
  obtain ⟨v, u, hv, hu, e1, e2, _⟩ := abv_iff.1 h
  exact ⟨by rw [← e1]; exact Lc_lt hv, by rw [← e2]; exact Lc_lt hu⟩
theorem hG_ok (G : List (List Int)) : Ht (abv G) (comp G).2 (hG G) :=
  hgt_ok (fun c d e h1 h2 => abv_iff.2 ((abv_iff.1 h1).trans (abv_iff.1 h2))) (fun c d h1 h2 => (abv_iff.1 h1).anti (abv_iff.1 h2))
noncomputable def dpt (G : List (List Int)) : Nat := topH (hG G) (comp G).2
theorem dpt_lt {G : List (List Int)} : dpt G ≤ 512 ∨ 512 < (comp G).2 := by
  by_cases h : 0 < (comp G).2
  · have := (hG_ok G).top_lt h
    unfold dpt; omega
  · left
    unfold dpt
    rw [show (comp G).2 = 0 by omega]
    exact Nat.zero_le _
theorem cDepth {G : List (List Int)} (hs : Short G) {vG : Value} (prot : Nat) {H : AHeap} (hg : Gr H vG G) :
    callInf cfg 7 [vG] prot H = some (.tuple #[.int .i64 (if chk G = 0 then ((dpt G : Nat) : Int) else 0), .int .i64 (chk G)], H) := by
  have h22 := c25 hs H.length hg
  obtain ⟨aG, cG, rfl⟩ := hg.len
  by_cases h : chk G = 0
  · rw [if_pos h]
    have hGd := good_of hs h
    have h5 := hGd.1
    have hn := comp_n G
    obtain ⟨xs, H1, w1, w2, w3⟩ := c40 hGd H.length hg
    obtain ⟨n, hn'⟩ : ∃ n, n = (comp G).2 := ⟨_, rfl⟩
    have hxr := w2.rd
    obtain ⟨ax, cx, rfl⟩ := hxr.len
    obtain ⟨HA, hHA⟩ : ∃ HA, HA = H1 ++ [vo [.slice none 0 0] 53] := ⟨_, rfl⟩
    have sA : Stay none H1 HA := by rw [hHA]; exact Stay.app none H1 _
    have lA : HA.length = H1.length + 1 := by rw [hHA]; simp
    have gA : HA[H1.length]? = some (.cells [.slice none 0 0] 53 1 .var) := by rw [hHA]; exact append_get.1
    obtain ⟨H2, hH2⟩ : ∃ H2, H2 = HA.set H1.length (.cells [.slice ax (comp G).2 cx] 53 1 .var) := ⟨_, rfl⟩
    have s2 : Stay (some H1.length) HA H2 := by rw [hH2]; exact set_stay
    have l2 : H2.length = H1.length + 1 := by rw [hH2, List.length_set, lA]
    have hlen := w3.1
    have e2 : setCells HA H.length H1.length 1 0 [.slice ax (comp G).2 cx] = some H2 := by rw [hH2]; exact arr_put gA rfl hlen rfl rfl
    have g2 : H2[H1.length]? = some (.cells [.slice ax (comp G).2 cx] 53 1 .var) := by rw [hH2, List.getElem?_set_self (by omega)]
    have r2 : Rd H2 46 8 (.slice ax (comp G).2 cx) (comp G).2 (sets (abv G) (comp G).2) := (hxr.stay sA).stayE gA (by decide) s2
    obtain ⟨HB, hHB⟩ : ∃ HB, HB = H2 ++ [AObj.cells (repCells [.int .i64 0] (comp G).2) 3 (repCells [.int .i64 0] (comp G).2).length .row] := ⟨_, rfl⟩
    have sB : Stay none H2 HB := by rw [hHB]; exact Stay.app none H2 _
    have lB : HB.length = H1.length + 2 := by rw [hHB, List.length_append, List.length_singleton]; omega
    obtain ⟨HC, hHC⟩ : ∃ HC, HC = HB ++ [vo [.slice none 0 0] 24] := ⟨_, rfl⟩
    have sC : Stay none HB HC := by rw [hHC]; exact Stay.app none HB _
    have lC : HC.length = H1.length + 3 := by rw [hHC, List.length_append, List.length_singleton]; omega
    have gC : HC[HB.length]? = some (.cells [.slice none 0 0] 24 1 .var) := by rw [hHC]; exact append_get.1
    obtain ⟨xd, hxd⟩ : ∃ xd : Value, xd = .slice (some ⟨H2.length, 0, some ((((comp G).2 : Nat) : Int).toNat * 1)⟩) (((comp G).2 : Nat) : Int).toNat (((comp G).2 : Nat) : Int).toNat := ⟨_, rfl⟩
    obtain ⟨H3, hH3⟩ : ∃ H3, H3 = HC.set HB.length (.cells [xd] 24 1 .var) := ⟨_, rfl⟩
    have s3 : Stay (some HB.length) HC H3 := by rw [hH3]; exact set_stay
    have l3 : H3.length = H1.length + 3 := by rw [hH3, List.length_set, lC]
    have e3 : setCells HC H.length HB.length 1 0 [xd] = some H3 := by rw [hH3]; exact arr_put gC rfl (by omega) rfl (by rw [hxd]; rfl)
    obtain ⟨HD, hHD⟩ : ∃ HD, HD = H3 ++ [vo [.nilFunc] 55] := ⟨_, rfl⟩
    have sD : Stay none H3 HD := by rw [hHD]; exact Stay.app none H3 _
    have lD : HD.length = H1.length + 4 := by rw [hHD, List.length_append, List.length_singleton]; omega
    have gD : HD[H3.length]? = some (.cells [.nilFunc] 55 1 .var) := by rw [hHD]; exact append_get.1
    obtain ⟨H4, hH4⟩ : ∃ H4, H4 = HD.set H3.length (.cells [fDp HB.length H1.length H3.length] 55 1 .var) := ⟨_, rfl⟩
    have s4 : Stay (some H3.length) HD H4 := by rw [hH4]; exact set_stay
    have e4 : setCells HD H.length H3.length 1 0 [fDp HB.length H1.length H3.length] = some H4 := by rw [hH4]; exact arr_put gD rfl (by omega) rfl rfl
    have k2 : H4[H1.length]? = some (.cells [.slice ax (comp G).2 cx] 53 1 .var) := by
      rw [s4.2 _ (by omega) (fun e => by have := Option.some.inj e; omega), sD.2 _ (by omega) (by simp), s3.2 _ (by omega) (fun e => by have := Option.some.inj e; omega), sC.2 _ (by omega) (by simp), sB.2 _ (by omega) (by simp)]; exact g2
    have k1 : H4[HB.length]? = some (.cells [xd] 24 1 .var) := by
      rw [s4.2 _ (by omega) (fun e => by have := Option.some.inj e; omega), sD.2 _ (by omega) (by simp), hH3, List.getElem?_set_self (by omega)]
    have k3 : H4[H3.length]? = some (.cells [fDp HB.length H1.length H3.length] 55 1 .var) := by rw [hH4, List.getElem?_set_self (by omega)]
    have key : ∃ H5, lpInf (lpOf cfg a7 0 prot H) ([.pointer (some ⟨H3.length, 0, some 1⟩), .int .i64 1, .int .i64 (comp G).2, .int .i64 0], H4) = some (.exit 0, [.int .i64 ((1 + dpt G : Nat) : Int)], H5) := by
      by_cases h0 : 0 < (comp G).2
      · have m : Own HB 3 1 xd (some H2.length) (comp G).2 (il (nl (farL (fun _ => 0) (comp G).2))) := by
          have hm := own_mk (e := 3) h0 H2 (.int .i64 0)
          rw [hxd, hHB, Int.toNat_natCast]
          have : il (nl (farL (fun _ => 0) (comp G).2)) = List.replicate (comp G).2 (.int .i64 0) := by
            unfold il nl farL
            rw [List.map_map, List.map_map, List.eq_replicate_iff]
            refine ⟨by simp, fun b hb => ?_⟩
            obtain ⟨_, _, rfl⟩ := List.mem_map.1 hb
            rfl
          rw [this]
          exact hm
        have m4 : Own H4 3 1 xd (some H2.length) (comp G).2 (il (nl (farL (fun _ => 0) (comp G).2))) :=
          (((m.stay sC (fun _ _ h => by cases h)).stay s3 (fun id e1 e2 => by cases e1; have := Option.some.inj e2; omega)).stay sD (fun _ _ h => by cases h)).stay s4 (fun id e1 e2 => by cases e1; have := Option.some.inj e2; omega)
        have r4 : Rd H4 46 8 (.slice ax (comp G).2 cx) (comp G).2 (sets (abv G) (comp G).2) := ((((r2.stay sB).stay sC).stayE gC (by decide) s3).stay sD).stayE gD (by decide) s4
        have hw : WD H.length H4 (comp G).2 (abv G) (hG G) xd (.slice ax (comp G).2 cx) H2.length HB.length H1.length H3.length (fun _ => 0) :=
          ⟨k1, k2, k3, m4, r4, by omega, by omega, by omega, by omega, fun _ _ => .inl rfl⟩
        exact loop7 (by omega) (hG_ok G) (fun c d h => (abv_lt h).2) (comp G).2 0 H4 _ (by omega) hw
      · have hz : (comp G).2 = 0 := by omega
        refine ⟨H4, ?_⟩
        have : dpt G = 0 := by unfold dpt; rw [hz]; rfl
        rw [this, hz]
        exact lp_last (f7_L0_1 (by decide))
    obtain ⟨H5, z1⟩ := key
    have hd := dpt_lt (G := G)
    have hz8 : (((1 + dpt G : Nat) : Int) - 1) = ((dpt G : Nat) : Int) := by omega
    rw [h] at h22 ⊢
    subst hHD; subst hHC; subst hHB; subst hHA
    have := f7_F_1 (x0a := aG) (x0n := G.length) (x0c := cG) (prot := prot) h22 rfl w1 rfl e2 (one_get g2) (by omega) rfl (by omega) (by omega) rfl (by rw [← hxd]; exact e3) rfl e4 (one_get k2) z1 (fit64 (by omega) (by omega))
    rw [hz8] at this
    exact this
  · rw [if_neg h]
    exact f7_F_0 h22 (by simp [h])
end Go.Proofs.YtkemihfaohkoeaaDoor.Am11d
namespace Go.Proofs.YtkemihfaohkoeaaDoor.Am11d
open Go Go.Proofs.YtkemihfaohkoeaaDoor.Am
abbrev p8 (p : Nat) : Value := .pointer (some ⟨p, 0, some 8⟩)
end Go.Proofs.YtkemihfaohkoeaaDoor.Am11d
set_option linter.unusedVariables false
open Go Go.Proofs.YtkemihfaohkoeaaDoor.Am
namespace Go.Proofs.YtkemihfaohkoeaaDoor.Am11d
theorem f18_F_0 {x0a : Option Addr} {x0n x0c : Nat} {H : AHeap} {prot x2p x2o x2l : Nat} {H1 : AHeap} {x9 : Int} {x12 : Array Value} {H2 : AHeap} {w : Array Value} (rv : Value) (rH : AHeap) (h1 : aalloc cfg.P 46 H = some (Value.pointer (some ⟨x2p, x2o, some x2l⟩), H1)) (h2 : callInf cfg 22 [Value.slice x0a x0n x0c] (List.length H) H1 = some (Value.int .i64 x9, H1)) (h3 : (x9 != 0) = true) (h4 : abuild cfg.P 46 [] = some (Value.agg x12)) (h5 : x12.toList.length = 8) (h6 : setCells H1 (List.length H) x2p x2l x2o x12.toList = some H2) (h7 : getCells H2 x2p x2l x2o 8 = some w.toList) (h8 : pfin a18 H [Value.agg w, Value.int .i64 x9] H2 = (rv, rH)) : callInf cfg 18 [.slice x0a x0n x0c] prot H = some (rv, rH) :=
  fn_of2 a18 [.r (.pointer (some ⟨x2p, x2o, some x2l⟩)) H1, .v (.int .i64 x9), .e, .b true, .v (.agg x12), .h H2, .v (.agg w)] (ai h1 (ai h2 (ai h3 (ai h4 (ai h5 (ai h6 (ai h7 h8))))))) (by kernel_rfl) rfl
theorem f18_F_1 {x0a : Option Addr} {x0n x0c : Nat} {H : AHeap} {prot x2p x2o x2l : Nat} {H1 : AHeap} {x9 : Int} {x5p x5o x5l : Nat} {H2 : AHeap} {x15a : Option Addr} {x15n x15c : Nat} {H3 : AHeap} {z2p z2o z2l z5p z5o z5l : Nat} {H4 : AHeap} {x31 : Array Value} {H5 : AHeap} {w : Array Value} (rv : Value) (rH : AHeap) (h1 : aalloc cfg.P 46 H = some (Value.pointer (some ⟨x2p, x2o, some x2l⟩), H1)) (h2 : callInf cfg 22 [Value.slice x0a x0n x0c] (List.length H) H1 = some (Value.int .i64 x9, H1)) (h3 : (x9 != 0) = false) (h4 : aalloc cfg.P 46 H1 = some (Value.pointer (some ⟨x5p, x5o, some x5l⟩), H2)) (h5 : callInf cfg 34 [Value.slice x0a x0n x0c] (List.length H) H2 = some (Value.slice x15a x15n x15c, H3)) (h6 : lpInf (lpOf cfg a18 0 prot H) ([Value.pointer (some ⟨x2p, x2o, some x2l⟩), Value.pointer (some ⟨x5p, x5o, some x5l⟩), Value.slice x15a x15n x15c, Value.int .i64 (↑x15n : Int), Value.int .i64 0], H3) = some (Ex.exit 0, [Value.pointer (some ⟨z2p, z2o, some z2l⟩), Value.pointer (some ⟨z5p, z5o, some z5l⟩)], H4)) (h7 : getCells H4 z5p z5l z5o 8 = some x31.toList) (h8 : x31.toList.length = 8) (h9 : setCells H4 (List.length H) z2p z2l z2o x31.toList = some H5) (h10 : getCells H5 z2p z2l z2o 8 = some w.toList) (h11 : pfin a18 H [Value.agg w, Value.int .i64 0] H5 = (rv, rH)) : callInf cfg 18 [.slice x0a x0n x0c] prot H = some (rv, rH) :=
  fn_of2 a18 [.r (.pointer (some ⟨x2p, x2o, some x2l⟩)) H1, .v (.int .i64 x9), .e, .b false, .r (.pointer (some ⟨x5p, x5o, some x5l⟩)) H2, .r (.slice x15a x15n x15c) H3, .e, .lo (.exit 0, [.pointer (some ⟨z2p, z2o, some z2l⟩), .pointer (some ⟨z5p, z5o, some z5l⟩)], H4), .v (.agg x31), .h H5, .v (.agg w)] (ai h1 (ai h2 (ai h3 (ai h4 (ai h5 (ai h6 (ai h7 (ai h8 (ai h9 (ai h10 h11)))))))))) (by kernel_rfl) rfl
theorem f18_L0_0 {x2p x2o x2l x5p x5o x5l : Nat} {x15a : Option Addr} {x15n x15c : Nat} {x16 x17 : Int} {H0 : AHeap} {prot : Nat} {H : AHeap} {x20p x20o x20l x21p x21o x21l : Nat} {x26 : Bool} {x27 x29 : Array Value} {H2 : AHeap} (h1 : x17 < x16) (h2 : aindexAddr cfg.P 64 (Value.slice x15a x15n x15c) (Value.int .i64 x17) = some (Value.pointer (some ⟨x20p, x20o, some x20l⟩))) (h3 : getCells H x20p x20l x20o 1 = some [Value.pointer (some ⟨x21p, x21o, some x21l⟩)]) (h4 : 0 ≤ x17) (h5 : x17 < (↑512 : Int)) (h6 : getCells H x21p x21l (x21o + x17.toNat * 1) 1 = some [Value.bool x26]) (h7 : x26 = true) (h8 : getCells H x5p x5l x5o 8 = some x27.toList) (h9 : callInf cfg 35 [Value.agg x27, Value.int .i64 x17] (List.length H0) H = some (Value.agg x29, H)) (h10 : x29.toList.length = 8) (h11 : setCells H (List.length H0) x5p x5l x5o x29.toList = some H2) (h12 : Fit .i64 (x17 + 1)) : lpOf cfg a18 0 prot H0 ([.pointer (some ⟨x2p, x2o, some x2l⟩), .pointer (some ⟨x5p, x5o, some x5l⟩), .slice x15a x15n x15c, .int .i64 x16, .int .i64 x17], H) = some (Sum.inl ([Value.pointer (some ⟨x2p, x2o, some x2l⟩), Value.pointer (some ⟨x5p, x5o, some x5l⟩), Value.slice x15a x15n x15c, Value.int .i64 x16, Value.int .i64 (x17 + 1)], H2)) :=
  lp_of2 [.e, .b true, .v (.pointer (some ⟨x20p, x20o, some x20l⟩)), .v (.pointer (some ⟨x21p, x21o, some x21l⟩)), .e, .v (.bool x26), .b true, .v (.agg x27), .v (.agg x29), .h H2, .e] (ai (decide_eq_true h1) (ai h2 (ai h3 (ai h4 (ai h5 (ai h6 (ai h7 (ai h8 (ai h9 (ai h10 (ai h11 (ai h12 (Eq.refl (Sum.inl ([Value.pointer (some ⟨x2p, x2o, some x2l⟩), Value.pointer (some ⟨x5p, x5o, some x5l⟩), Value.slice x15a x15n x15c, Value.int .i64 x16, Value.int .i64 (x17 + 1)], H2) : LS ⊕ LO)))))))))))))) (by kernel_rfl)
theorem f18_L0_1 {x2p x2o x2l x5p x5o x5l : Nat} {x15a : Option Addr} {x15n x15c : Nat} {x16 x17 : Int} {H0 : AHeap} {prot : Nat} {H : AHeap} {x20p x20o x20l x21p x21o x21l : Nat} {x26 : Bool} (h1 : x17 < x16) (h2 : aindexAddr cfg.P 64 (Value.slice x15a x15n x15c) (Value.int .i64 x17) = some (Value.pointer (some ⟨x20p, x20o, some x20l⟩))) (h3 : getCells H x20p x20l x20o 1 = some [Value.pointer (some ⟨x21p, x21o, some x21l⟩)]) (h4 : 0 ≤ x17) (h5 : x17 < (↑512 : Int)) (h6 : getCells H x21p x21l (x21o + x17.toNat * 1) 1 = some [Value.bool x26]) (h7 : x26 = false) (h8 : Fit .i64 (x17 + 1)) : lpOf cfg a18 0 prot H0 ([.pointer (some ⟨x2p, x2o, some x2l⟩), .pointer (some ⟨x5p, x5o, some x5l⟩), .slice x15a x15n x15c, .int .i64 x16, .int .i64 x17], H) = some (Sum.inl ([Value.pointer (some ⟨x2p, x2o, some x2l⟩), Value.pointer (some ⟨x5p, x5o, some x5l⟩), Value.slice x15a x15n x15c, Value.int .i64 x16, Value.int .i64 (x17 + 1)], H)) :=
  lp_of2 [.e, .b true, .v (.pointer (some ⟨x20p, x20o, some x20l⟩)), .v (.pointer (some ⟨x21p, x21o, some x21l⟩)), .e, .v (.bool x26), .b false, .e] (ai (decide_eq_true h1) (ai h2 (ai h3 (ai h4 (ai h5 (ai h6 (ai h7 (ai h8 (Eq.refl (Sum.inl ([Value.pointer (some ⟨x2p, x2o, some x2l⟩), Value.pointer (some ⟨x5p, x5o, some x5l⟩), Value.slice x15a x15n x15c, Value.int .i64 x16, Value.int .i64 (x17 + 1)], H) : LS ⊕ LO)))))))))) (by kernel_rfl)
theorem f18_L0_2 {x2p x2o x2l x5p x5o x5l : Nat} {x15a : Option Addr} {x15n x15c : Nat} {x16 x17 : Int} {H0 : AHeap} {prot : Nat} {H : AHeap} (h1 : ¬(x17 < x16)) : lpOf cfg a18 0 prot H0 ([.pointer (some ⟨x2p, x2o, some x2l⟩), .pointer (some ⟨x5p, x5o, some x5l⟩), .slice x15a x15n x15c, .int .i64 x16, .int .i64 x17], H) = some (Sum.inr (Ex.exit 0, [Value.pointer (some ⟨x2p, x2o, some x2l⟩), Value.pointer (some ⟨x5p, x5o, some x5l⟩)], H)) :=
  lp_of2 [.e, .b false] (ai (decide_eq_false h1) (Eq.refl (Sum.inr (Ex.exit 0, [Value.pointer (some ⟨x2p, x2o, some x2l⟩), Value.pointer (some ⟨x5p, x5o, some x5l⟩)], H) : LS ⊕ LO))) (by kernel_rfl)
end Go.Proofs.YtkemihfaohkoeaaDoor.Am11d
namespace Go.Proofs.YtkemihfaohkoeaaDoor.Am11d
open Go Go.Proofs.YtkemihfaohkoeaaDoor.Am
theorem WL.stayS {G : List (List Int)} {H H' : AHeap} {x : Value} (h : WL G H x) {p wr : Nat} {l : List Value} {md : OMode} (hp : H[p]? = some (.cells l 46 wr md)) (k : Stay (some p) H H') : WL G H' x := by
  obtain ⟨ps, h1, h2, h3⟩ := h.ex
  refine ⟨ps, Rd.stayE h1 hp (by decide) k, h2, fun j q hj => (h3 j q hj).stay k (fun e => ?_)⟩
  obtain ⟨M, m1, _⟩ := (h3 j q hj).ex
  have := Option.some.inj e
  subst this
  rw [hp] at m1
  cases m1

/-- All on a cycle. -/
noncomputable def lps (G : List (List Int)) : Nat → Bool := fun x => @decide (x < G.length ∧ Rch G x x) (Classical.propDecidable _)
theorem lps_iff {G : List (List Int)} {x : Nat} : lps G x = true ↔ x < G.length ∧ Rch G x x := by unfold lps; exact @decide_eq_true_iff _ (Classical.propDecidable _)
theorem loop29 {G : List (List Int)} (hG : Good G) {p2 p5 : Nat} {x : Value} {H0 : AHeap} {prot : Nat} (hp : H0.length ≤ p5) : ∀ (d i : Nat) (T : Nat → Bool) (H : AHeap), i + d = G.length → (∀ u, T u = (decide (u < i) && lps G u)) → H[p5]? = some (.cells (setL T) 46 8 .var) → WL G H x →
    ∃ T' H', lpInf (lpOf cfg a18 0 prot H0) ([.pointer (some ⟨p2, 0, some 8⟩), .pointer (some ⟨p5, 0, some 8⟩), x, .int .i64 G.length, .int .i64 i], H) = some (.exit 0, [.pointer (some ⟨p2, 0, some 8⟩), .pointer (some ⟨p5, 0, some 8⟩)], H') ∧
      (∀ u, T' u = lps G u) ∧ H'[p5]? = some (.cells (setL T') 46 8 .var) ∧ Stay (some p5) H H'
  | 0, i, T, H, hi, hT, h5, hw => by
    refine ⟨T, H, ?_, fun u => ?_, h5, Stay.refl _ _⟩
    · obtain ⟨_, h1, _⟩ := hw.ex
      obtain ⟨_, _, rfl⟩ := h1.len
      exact lp_last (f18_L0_2 (by omega))
    · rw [hT u]
      by_cases hu : u < i
      · rw [decide_eq_true hu, Bool.true_and]
      · rw [decide_eq_false hu, Bool.false_and, eq_comm, Bool.eq_false_iff]
        intro h
        have := (lps_iff.1 h).1
        omega
  | d + 1, i, T, H, hi, hT, h5, hw => by
    have hil : i < G.length := by omega
    have h512 := hG.1
    obtain ⟨id, L, p, b, a1, a2, a3, a4⟩ := hw.at hil (show i < 512 by omega)
    have fi : Fit .i64 ((i : Int) + 1) := fit64 (by omega) (by omega)
    have hb : b = lps G i := by
      rw [Bool.eq_iff_iff, a4, lps_iff]
      exact ⟨fun h => ⟨hil, h⟩, fun h => h.2⟩
    have hxl : ∃ a c, x = .slice a G.length c := by obtain ⟨_, h1, _⟩ := hw.ex; exact h1.len
    cases hbv : b with
    | true =>
      rw [hbv] at a3 hb
      have h38 := c38 (S := T) (show i < 512 by omega) H0.length H
      obtain ⟨H2, hH2⟩ : ∃ H2, H2 = H.set p5 (.cells (setL (addS T i)) 46 8 .var) := ⟨_, rfl⟩
      have s2 : Stay (some p5) H H2 := by rw [hH2]; exact set_stay
      have hset : setCells H H0.length p5 8 0 (setL (addS T i)) = some H2 := by rw [hH2]; exact arr_put h5 (setL_len _) hp (setL_len _) (setL_cell _)
      obtain ⟨T', H', z1, z2, z3, z4⟩ := loop29 hG (p2 := p2) (prot := prot) hp d (i + 1) (addS T i) H2 (by omega) (fun u => by
        unfold addS
        rw [hT u]
        by_cases e : u = i
        · subst e
          rw [decide_eq_true (show u < u + 1 by omega), ← hb]
          simp
        · have e1 : decide (u < i + 1) = decide (u < i) := by rw [decide_eq_decide]; omega
          rw [e1, decide_eq_false e, Bool.or_false]) (by rw [hH2, List.getElem?_set_self (List.getElem?_eq_some_iff.1 h5).1]) (hw.stayS h5 s2)
      refine ⟨T', H', ?_, z2, z3, s2.trans z4⟩
      obtain ⟨_, _, rfl⟩ := hxl
      exact lp_next (f18_L0_0 (x27 := setA T) (x29 := setA (addS T i)) (by omega) a1 a2 (by omega) (by omega) a3 rfl (arr_all h5 (setL_len _)) h38 (setL_len _) hset fi) z1
    | false =>
      rw [hbv] at a3 hb
      obtain ⟨T', H', z1, z2, z3, z4⟩ := loop29 hG (p2 := p2) (prot := prot) hp d (i + 1) T H (by omega) (fun u => by
        rw [hT u]
        by_cases e : u = i
        · subst e
          rw [← hb, Bool.and_false, Bool.and_false]
        · have e1 : decide (u < i + 1) = decide (u < i) := by rw [decide_eq_decide]; omega
          rw [e1]) h5 hw
      refine ⟨T', H', ?_, z2, z3, z4⟩
      obtain ⟨_, _, rfl⟩ := hxl
      exact lp_next (f18_L0_1 (by omega) a1 a2 (by omega) (by omega) a3 rfl fi) z1

/-- What Loops answers. -/
noncomputable def loopsV (G : List (List Int)) : (Nat → Bool) × Int := if chk G ≠ 0 then (noS, chk G) else (lps G, 0)
theorem c29 {G : List (List Int)} (hs : Short G) {vG : Value} (prot : Nat) {H : AHeap} (hg : Gr H vG G) :
    callInf cfg 18 [vG] prot H = some (.tuple #[.agg (setA (loopsV G).1), .int .i64 (loopsV G).2], H) := by
  obtain ⟨HA, hHA⟩ : ∃ HA, HA = H ++ [AObj.cells (setL noS) 46 8 .var] := ⟨_, rfl⟩
  have lA : HA.length = H.length + 1 := by rw [hHA, List.length_append, List.length_singleton]
  have sA : Stay none H HA := by rw [hHA]; exact Stay.app none H _
  have a1 := al39 H
  rw [← hHA] at a1
  have gA : HA[H.length]? = some (.cells (setL noS) 46 8 .var) := by rw [hHA]; exact append_get.1
  have h25 := c25 hs H.length (hg.stay sA)
  have hgl := hg.len
  unfold loopsV
  by_cases h : chk G = 0
  · rw [if_neg (by simp [h])]
    have hG := good_of hs h
    obtain ⟨HB, hHB⟩ : ∃ HB, HB = HA ++ [AObj.cells (setL noS) 46 8 .var] := ⟨_, rfl⟩
    have lB : HB.length = H.length + 2 := by rw [hHB, List.length_append, List.length_singleton]; omega
    have sB : Stay none HA HB := by rw [hHB]; exact Stay.app none HA _
    have a2 := al39 HA
    rw [← hHB] at a2
    have gB : HB[HA.length]? = some (.cells (setL noS) 46 8 .var) := by rw [hHB]; exact append_get.1
    obtain ⟨aw, cw, HC, w1, w2, w3⟩ := c37 hG H.length (hg.stay (sA.trans sB))
    have gC : HC[HA.length]? = some (.cells (setL noS) 46 8 .var) := by rw [w3.2 _ (by omega) (by simp)]; exact gB
    have gC0 : HC[H.length]? = some (.cells (setL noS) 46 8 .var) := by rw [w3.2 _ (by omega) (by simp), sB.2 _ (by omega) (by simp)]; exact gA
    obtain ⟨T', HE, z1, z2, z3, z4⟩ := loop29 hG (p2 := H.length) (H0 := H) (prot := prot) (show H.length ≤ HA.length by omega) G.length 0 noS HC (by omega) (fun u => by simp [noS]) gC w2
    have gE0 : HE[H.length]? = some (.cells (setL noS) 46 8 .var) := by rw [z4.2 _ (List.getElem?_eq_some_iff.1 gC0).1 (fun e => by have := Option.some.inj e; omega)]; exact gC0
    have hT : setL T' = setL (lps G) := setL_congr fun x _ => z2 x
    rw [hT] at z3
    obtain ⟨HF, hHF⟩ : ∃ HF, HF = HE.set H.length (.cells (setL (lps G)) 46 8 .var) := ⟨_, rfl⟩
    have e2 : setCells HE H.length H.length 8 0 (setL (lps G)) = some HF := by rw [hHF]; exact arr_put gE0 (setL_len _) (Nat.le_refl _) (setL_len _) (setL_cell _)
    have gF : HF[H.length]? = some (.cells (setL (lps G)) 46 8 .var) := by rw [hHF, List.getElem?_set_self (List.getElem?_eq_some_iff.1 gE0).1]
    obtain ⟨aG, cG, rfl⟩ := hgl
    exact f18_F_1 (x31 := setA (lps G)) (w := setA (lps G)) _ _ a1 h25 (by simp [h]) a2 w1 z1 (arr_all z3 (setL_len _)) (setL_len _) e2 (arr_all gF (setL_len _)) (pf_plain rfl (by rw [List.all_cons, setA_plain]; rfl))
  · rw [if_pos h]
    obtain ⟨aG, cG, rfl⟩ := hgl
    exact f18_F_0 (w := setA noS) _ _ a1 h25 (by simpa using h) bd39 (setL_len _) (arr_put gA (setL_len _) (Nat.le_refl _) (setL_len _) (setL_cell _)) (arr_all (List.getElem?_set_self (by omega)) (setL_len _)) (pf_plain rfl (by rw [List.all_cons, setA_plain]; rfl))
end Go.Proofs.YtkemihfaohkoeaaDoor.Am11d
namespace Go.Proofs.YtkemihfaohkoeaaDoor.Am
open Go

theorem apure_pure {α : Type} (P : Program) (a : α) : apure P (pure a : Sem α) = some a := rfl
theorem apure_underlying {P : Program} {t : TypeId} {d : TypeDesc} (h : P.underlying t = some d) : apure P (underlying t) = some d := by
  unfold underlying
  rw [apure_bind]
  show (some P).bind _ = _
  rw [Option.bind_some, h]
  rfl

def runFold (P : Program) {α β : Type} (f : α → β → Sem (ForInStep β)) : List α → β → Option β
  | [], b => some b
  | a :: l, b => (apure P (f a b)).bind fun r =>
    match r with
    | .done b => some b
    | .yield b => runFold P f l b
theorem apure_forIn {α β : Type} (P : Program) (f : α → β → Sem (ForInStep β)) : ∀ (l : List α) (b : β), apure P (forIn l b f) = runFold P f l b
  | [], b => by simp [apure_pure, runFold]
  | a :: l, b => by
    rw [List.forIn_cons, apure_bind]
    simp only [runFold]
    congr 1
    funext r
    cases r with
    | done b => rfl
    | yield b => exact apure_forIn P f l b

theorem apure_int {P : Program} {e : TypeId} {q : IntKind} (he : P.underlying e = some (.int q)) (d : Nat) (a b : Int) : apure P (Op.equalIn (d + 1) e (.int q a) (.int q b)) = some (a == b) := by
  simp only [Op.equalIn, apure_bind, apure_underlying he, Option.bind_some]
  rw [if_pos trivial]
  rfl

theorem apure_part {P : Program} {e : TypeId} {q : IntKind} (he : P.underlying e = some (.int q)) (xs : List Int) {i : Nat} {a : Int} (ha : xs[i]? = some a) : apure P (part e (xs.map (Value.int q)).toArray (i * 1)) = some (.int q a) := by
  have hag : apure P (isAgg e) = some false := by
    unfold isAgg
    simp only [apure_bind, apure_underlying he, Option.bind_some]
    rfl
  unfold part
  simp only [apure_bind, hag, Option.bind_some]
  simp [ha, apure_pure]

def stepEq (P : Program) (e : TypeId) (q : IntKind) (d : Nat) (xs ys : List Int) (i : Nat) : Sem (ForInStep (Option Bool × Unit)) := do
  let a ← part e (xs.map (Value.int q)).toArray (i * 1)
  let b ← part e (ys.map (Value.int q)).toArray (i * 1)
  let r ← Op.equalIn (d + 1) e a b
  if (!r) = true then pure (ForInStep.done (some false, ())) else pure (ForInStep.yield (none, ()))

theorem apure_stepEq {P : Program} {e : TypeId} {q : IntKind} (he : P.underlying e = some (.int q)) (d : Nat) (xs ys : List Int) {i : Nat} {a b : Int} (ha : xs[i]? = some a) (hb : ys[i]? = some b) :
    apure P (stepEq P e q d xs ys i) = some (if a = b then .yield (none, ()) else .done (some false, ())) := by
  unfold stepEq
  simp only [apure_bind, apure_part he xs ha, apure_part he ys hb, apure_int he, Option.bind_some]
  by_cases h : a = b
  · subst h; simp [apure_pure]
  · simp [h, apure_pure]

theorem fold_eq {P : Program} {e : TypeId} {q : IntKind} (he : P.underlying e = some (.int q)) (d : Nat) (xs ys : List Int) : ∀ (m i : Nat), i + m = xs.length → i + m = ys.length →
    runFold P (fun i (_ : Option Bool × Unit) => stepEq P e q d xs ys i) (List.range' i m) (none, ()) = some (if xs.drop i = ys.drop i then (none, ()) else (some false, ()))
  | 0, i, h1, h2 => by
    rw [List.drop_of_length_le (by omega), List.drop_of_length_le (by omega)]
    simp [runFold]
  | m + 1, i, h1, h2 => by
    have hx : i < xs.length := by omega
    have hy : i < ys.length := by omega
    simp only [List.range'_succ, runFold]
    rw [apure_stepEq he d xs ys (List.getElem?_eq_getElem hx) (List.getElem?_eq_getElem hy), Option.bind_some]
    rw [List.drop_eq_getElem_cons hx, List.drop_eq_getElem_cons hy]
    by_cases h : xs[i] = ys[i]
    · rw [if_pos h]
      simp only
      rw [fold_eq he d xs ys m (i + 1) (by omega) (by omega), h]
      simp only [List.cons.injEq, true_and]
    · rw [if_neg h, if_neg (fun hh => h (by injection hh))]

theorem apure_equal_arr {P : Program} {t e : TypeId} {n : Nat} {q : IntKind} (hu : P.underlying t = some (.array n e)) (he : P.underlying e = some (.int q)) (hs : apure P (sizeOf e) = some 1) (d : Nat) (xs ys : List Int) (hx : xs.length = n) (hy : ys.length = n) :
    apure P (Op.equalIn (d + 2) t (.agg (xs.map (Value.int q)).toArray) (.agg (ys.map (Value.int q)).toArray)) = some (decide (xs = ys)) := by
  unfold Op.equalIn
  simp only [apure_bind, apure_underlying hu, hs, Option.bind_some]
  rw [Std.Legacy.Range.forIn_eq_forIn_range']
  have hstep : ∀ i : Nat, (fun (__s : Option Bool × Unit) => (do
            let a ← part e (List.map (Value.int q) xs).toArray (i * 1)
            let b ← part e (List.map (Value.int q) ys).toArray (i * 1)
            let r ← Op.equalIn (d + 1) e a b
            if (!r) = true then pure (ForInStep.done (some false, ()))
              else pure (ForInStep.yield (none, ())) : Sem (ForInStep (Option Bool × Unit)))) = fun _ => stepEq P e q d xs ys i := fun i => rfl
  have hz : (Std.Legacy.Range.size [:n]) = n := by simp [Std.Legacy.Range.size]
  rw [hz]
  have h2 := fold_eq he d xs ys n 0 (by omega) (by omega)
  have := (apure_forIn P (fun i (_ : Option Bool × Unit) => stepEq P e q d xs ys i) (List.range' 0 n) (none, ())).trans h2
  have h3 : apure P (forIn (List.range' 0 n) ((none : Option Bool), ()) fun i (__s : Option Bool × Unit) => (do
            let a ← part e (List.map (Value.int q) xs).toArray (i * 1)
            let b ← part e (List.map (Value.int q) ys).toArray (i * 1)
            let r ← Op.equalIn (d + 1) e a b
            if (!r) = true then pure (ForInStep.done (some false, ()))
              else pure (ForInStep.yield (none, ())) : Sem (ForInStep (Option Bool × Unit)))) = _ := this
  rw [h3, Option.bind_some, List.drop_zero, List.drop_zero]
  by_cases h : xs = ys
  · subst h; simp [apure_pure]
  · simp [h, apure_pure]

/-! ### Arrays of whole numbers as keys -/
def keyV (q : IntKind) (xs : List Int) : Value := .agg (xs.map (Value.int q)).toArray

def stepCk (emp : Bool) (e : TypeId) (q : IntKind) (d : Nat) (xs : List Int) (i : Nat) : Sem (ForInStep Unit) := do
  let n ← sizeOf e
  let a ← part e (xs.map (Value.int q)).toArray (i * n)
  Instr.checkKey emp (d + 1) e a
  pure (ForInStep.yield ())
def kidx (xs : List Int) (ks : List (List Int)) : Option Nat := ks.findIdx? fun y => decide (xs = y)

end Go.Proofs.YtkemihfaohkoeaaDoor.Am
namespace Go.Proofs.YtkemihfaohkoeaaDoor.Am11d
open Go Go.Proofs.YtkemihfaohkoeaaDoor.Am
theorem setA_map (S : Nat → Bool) : setA S = (((List.range 8).map fun w => ((wordS S w : Nat) : Int)).map (Value.int .u64)).toArray := by
  unfold setA setL
  rw [List.map_map]
  rfl
theorem aeq39 (S : Nat → Bool) : aeq cfg.P 46 (.agg (setA S)) (.agg (setA S)) = some true := by
  unfold aeq
  have hu : cfg.P.underlying 46 = some (.array 8 44) := by kernel_rfl
  have he : cfg.P.underlying 44 = some (.int .u64) := by kernel_rfl
  have hg : cfg.P.eqGuardType cfg.P.depth 46 = false := by kernel_rfl
  have hs : apure cfg.P (sizeOf 44) = some 1 := by kernel_rfl
  rw [hu]
  simp only [setA_plain, hg, Bool.not_false, Bool.and_self, if_true]
  rw [setA_map]
  have h := apure_equal_arr hu he hs 9998 ((List.range 8).map fun w => ((wordS S w : Nat) : Int)) ((List.range 8).map fun w => ((wordS S w : Nat) : Int)) (by simp) (by simp)
  rw [decide_eq_true rfl] at h
  exact h
theorem ne39 (S : Nat → Bool) : abin cfg.P BinOp.neq 46 (.agg (setA S)) (.agg (setA S)) = some (.bool false) := by
  unfold abin
  simp only [aeq39, Option.map_some]
  rfl

end Go.Proofs.YtkemihfaohkoeaaDoor.Am11d
namespace Go.Proofs.YtkemihfaohkoeaaDoor.Am11d
open Go Go.Proofs.YtkemihfaohkoeaaDoor.Am
theorem sc_lt {G : List (List Int)} (hG : Good G) {v u : Nat} (hu : u ∈ sc G v) : v < G.length ∧ u < G.length := by
  have hv : v < G.length := by
    rcases Nat.lt_or_ge v G.length with h | h
    · exact h
    · unfold sc at hu
      rw [List.getD_eq_getElem?_getD, List.getElem?_eq_none h] at hu
      simp at hu
  refine ⟨hv, ?_⟩
  unfold sc at hu
  rw [List.getD_eq_getElem?_getD, List.getElem?_eq_getElem hv, Option.getD_some] at hu
  obtain ⟨x, hx, rfl⟩ := List.mem_map.1 hu
  have := hG.2.2 v G[v] x (List.getElem?_eq_getElem hv) hx
  omega
end Go.Proofs.YtkemihfaohkoeaaDoor.Am11d
namespace Go.Proofs.YtkemihfaohkoeaaDoor.Am11d
open Go Go.Proofs.YtkemihfaohkoeaaDoor.Am
theorem lens_wit (G : List (List Int)) : lens (wit G) ≤ lens G := by
  have h1 : lens (wit G) = lens (G.take 512) := by
    unfold lens wit
    rw [List.map_map]
    congr 1
    exact List.map_congr_left fun l _ => by simp
  have h2 : lens G = lens (G.take 512) + lens (G.drop 512) := by
    unfold lens
    rw [← List.sum_append, ← List.map_append, List.take_append_drop]
  omega

end Go.Proofs.YtkemihfaohkoeaaDoor.Am11d
set_option linter.unusedVariables false
open Go Go.Proofs.YtkemihfaohkoeaaDoor.Am
namespace Go.Proofs.YtkemihfaohkoeaaDoor.Am11d
theorem f4_F_7 {x0a : Option Addr} {x0n x0c : Nat} {x1 x2 : Int} {H : AHeap} {prot : Nat} {x29a : Option Addr} {x29n x29c : Nat} {H1 : AHeap} {x32aa : Option Addr} {x32an x32ac : Nat} {x32b : Int} {H2 : AHeap} {x36 : Int} {x46 : Bool} {x51aa : Option Addr} {x51an x51ac : Nat} {x51b x51c : Int} {H3 : AHeap} {x57aa : Option Addr} {x57an x57ac : Nat} {x57b x57c : Int} {H4 : AHeap} {x63a : Array Value} {x63b : Int} {x16p x16o x16l : Nat} {H5 H6 : AHeap} {x68a : Array Value} {x68b : Int} {x18p x18o x18l : Nat} {H7 H8 : AHeap} {x73a x73b x78a x78b x82 x84 x87 x90 x93 x96 : Int} {x107 : Bool} {x111 x112 : Array Value} {x113 : Bool} (h1 : callInf cfg 15 [Value.slice x0a x0n x0c] (List.length H) H = some (Value.slice x29a x29n x29c, H1)) (h2 : callInf cfg 16 [Value.slice x29a x29n x29c] (List.length H) H1 = some (Value.tuple { toList := [Value.slice x32aa x32an x32ac, Value.int .i64 x32b] }, H2)) (h3 : callInf cfg 11 [Value.int .i64 x32b] (List.length H) H2 = some (Value.int .i64 x36, H2)) (h4 : (x36 != 0) = false) (h5 : ((↑x32an : Int) != (↑x29n : Int)) = false) (h6 : callInf cfg 14 [] (List.length H) H2 = some (Value.bool x46, H2)) (h7 : (!x46) = false) (h8 : callInf cfg 17 [Value.slice x29a x29n x29c] (List.length H) H2 = some (Value.tuple { toList := [Value.slice x51aa x51an x51ac, Value.int .i64 x51b, Value.int .i64 x51c] }, H3)) (h9 : callInf cfg 17 [Value.slice x32aa x32an x32ac] (List.length H) H3 = some (Value.tuple { toList := [Value.slice x57aa x57an x57ac, Value.int .i64 x57b, Value.int .i64 x57c] }, H4)) (h10 : callInf cfg 18 [Value.slice x29a x29n x29c] (List.length H) H4 = some (Value.tuple { toList := [Value.agg x63a, Value.int .i64 x63b] }, H4)) (h11 : aalloc cfg.P 46 H4 = some (Value.pointer (some ⟨x16p, x16o, some x16l⟩), H5)) (h12 : x63a.toList.length = 8) (h13 : setCells H5 (List.length H) x16p x16l x16o x63a.toList = some H6) (h14 : callInf cfg 18 [Value.slice x32aa x32an x32ac] (List.length H) H6 = some (Value.tuple { toList := [Value.agg x68a, Value.int .i64 x68b] }, H6)) (h15 : aalloc cfg.P 46 H6 = some (Value.pointer (some ⟨x18p, x18o, some x18l⟩), H7)) (h16 : x68a.toList.length = 8) (h17 : setCells H7 (List.length H) x18p x18l x18o x68a.toList = some H8) (h18 : callInf cfg 7 [Value.slice x29a x29n x29c] (List.length H) H8 = some (Value.tuple { toList := [Value.int .i64 x73a, Value.int .i64 x73b] }, H8)) (h19 : callInf cfg 7 [Value.slice x32aa x32an x32ac] (List.length H) H8 = some (Value.tuple { toList := [Value.int .i64 x78a, Value.int .i64 x78b] }, H8)) (h20 : callInf cfg 11 [Value.int .i64 x51c] (List.length H) H8 = some (Value.int .i64 x82, H8)) (h21 : callInf cfg 11 [Value.int .i64 x57c] (List.length H) H8 = some (Value.int .i64 x84, H8)) (h22 : Fit .i64 (x82 + x84)) (h23 : callInf cfg 11 [Value.int .i64 x63b] (List.length H) H8 = some (Value.int .i64 x87, H8)) (h24 : Fit .i64 (x82 + x84 + x87)) (h25 : callInf cfg 11 [Value.int .i64 x68b] (List.length H) H8 = some (Value.int .i64 x90, H8)) (h26 : Fit .i64 (x82 + x84 + x87 + x90)) (h27 : callInf cfg 11 [Value.int .i64 x73b] (List.length H) H8 = some (Value.int .i64 x93, H8)) (h28 : Fit .i64 (x82 + x84 + x87 + x90 + x93)) (h29 : callInf cfg 11 [Value.int .i64 x78b] (List.length H) H8 = some (Value.int .i64 x96, H8)) (h30 : Fit .i64 (x82 + x84 + x87 + x90 + x93 + x96)) (h31 : (x82 + x84 + x87 + x90 + x93 + x96 != 0) = false) (h32 : (x51b != x57b) = false) (h33 : callInf cfg 10 [Value.slice x51aa x51an x51ac, Value.slice x57aa x57an x57ac] (List.length H) H8 = some (Value.bool x107, H8)) (h34 : (!x107) = false) (h35 : getCells H8 x16p x16l x16o 8 = some x111.toList) (h36 : getCells H8 x18p x18l x18o 8 = some x112.toList) (h37 : abin cfg.P BinOp.neq 46 (Value.agg x111) (Value.agg x112) = some (Value.bool x113)) (h38 : x113 = false) (h39 : (x73a != x78a) = false) (h40 : x73a ≥ x51b) (h41 : ¬(x51b > 0)) (h42 : ((↑x29n : Int) == 0) = true) : callInf cfg 4 [.slice x0a x0n x0c, .int .i64 x1, .int .i64 x2] prot H = some (Value.bool true, H) :=
  fn_of2 a4 [.r (.slice x29a x29n x29c) H1, .r (.tuple #[.slice x32aa x32an x32ac, .int .i64 x32b]) H2, .v (.int .i64 x36), .e, .b false, .b false, .e, .b false, .b false, .e, .b false, .e, .b false, .b false, .v (.bool x46), .b false, .e, .b false, .b false, .r (.tuple #[.slice x51aa x51an x51ac, .int .i64 x51b, .int .i64 x51c]) H3, .r (.tuple #[.slice x57aa x57an x57ac, .int .i64 x57b, .int .i64 x57c]) H4, .v (.tuple #[.agg x63a, .int .i64 x63b]), .r (.pointer (some ⟨x16p, x16o, some x16l⟩)) H5, .h H6, .v (.tuple #[.agg x68a, .int .i64 x68b]), .r (.pointer (some ⟨x18p, x18o, some x18l⟩)) H7, .h H8, .v (.tuple #[.int .i64 x73a, .int .i64 x73b]), .v (.tuple #[.int .i64 x78a, .int .i64 x78b]), .v (.int .i64 x82), .v (.int .i64 x84), .e, .v (.int .i64 x87), .e, .v (.int .i64 x90), .e, .v (.int .i64 x93), .e, .v (.int .i64 x96), .e, .e, .b false, .b false, .b false, .e, .b false, .b false, .b false, .b false, .v (.bool x107), .b false, .e, .b false, .b false, .v (.agg x111), .b false, .v (.agg x112), .b false, .v (.bool x113), .b false, .b false, .b false, .b false, .e, .b false, .b false, .b false, .b false, .e, .b false, .b true, .b true, .e, .b false, .b true, .b false, .b false, .e, .e, .b true] (ai h1 (ai h2 (ai h3 (ai h4 (ai h4 (ai h4 (ai h4 (ai h4 (ai h4 (ai h5 (ai h6 (ai h5 (ai h5 (ai h7 (ai h8 (ai h9 (ai h10 (ai h11 (ai h12 (ai h13 (ai h14 (ai h15 (ai h16 (ai h17 (ai h18 (ai h19 (ai h20 (ai h21 (ai h22 (ai h23 (ai h24 (ai h25 (ai h26 (ai h27 (ai h28 (ai h29 (ai h30 (ai h31 (ai h31 (ai h31 (ai h31 (ai h32 (ai h32 (ai h32 (ai h33 (ai h32 (ai h32 (ai h34 (ai h35 (ai h34 (ai h36 (ai h34 (ai h37 (ai h34 (ai h38 (ai h38 (ai h38 (ai h38 (ai h39 (ai h39 (ai h39 (ai h39 (ai (decide_eq_true h40) (ai (decide_eq_true h40) (ai h39 (ai (decide_eq_true h40) (ai h39 (ai (decide_eq_false h41) (ai h42 (Eq.refl ((Value.bool true, H) : Value × AHeap))))))))))))))))))))))))))))))))))))))))))))))))))))))))))))))))))))))) (by kernel_rfl) rfl
theorem f4_F_11 {x0a : Option Addr} {x0n x0c : Nat} {x1 x2 : Int} {H : AHeap} {prot : Nat} {x29a : Option Addr} {x29n x29c : Nat} {H1 : AHeap} {x32aa : Option Addr} {x32an x32ac : Nat} {x32b : Int} {H2 : AHeap} {x36 : Int} {x46 : Bool} {x51aa : Option Addr} {x51an x51ac : Nat} {x51b x51c : Int} {H3 : AHeap} {x57aa : Option Addr} {x57an x57ac : Nat} {x57b x57c : Int} {H4 : AHeap} {x63a : Array Value} {x63b : Int} {x16p x16o x16l : Nat} {H5 H6 : AHeap} {x68a : Array Value} {x68b : Int} {x18p x18o x18l : Nat} {H7 H8 : AHeap} {x73a x73b x78a x78b x82 x84 x87 x90 x93 x96 : Int} {x107 : Bool} {x111 x112 : Array Value} {x113 : Bool} {x155a : Array Value} {x155b : Int} {x24p x24o x24l : Nat} {H9 H10 : AHeap} {x161a : Array Value} {x161b : Int} {x26p x26o x26l : Nat} {H11 H12 : AHeap} {x165 x167 : Int} {x171 : Array Value} {x173 : Bool} {x174 : Array Value} {x176 : Bool} (h1 : callInf cfg 15 [Value.slice x0a x0n x0c] (List.length H) H = some (Value.slice x29a x29n x29c, H1)) (h2 : callInf cfg 16 [Value.slice x29a x29n x29c] (List.length H) H1 = some (Value.tuple { toList := [Value.slice x32aa x32an x32ac, Value.int .i64 x32b] }, H2)) (h3 : callInf cfg 11 [Value.int .i64 x32b] (List.length H) H2 = some (Value.int .i64 x36, H2)) (h4 : (x36 != 0) = false) (h5 : ((↑x32an : Int) != (↑x29n : Int)) = false) (h6 : callInf cfg 14 [] (List.length H) H2 = some (Value.bool x46, H2)) (h7 : (!x46) = false) (h8 : callInf cfg 17 [Value.slice x29a x29n x29c] (List.length H) H2 = some (Value.tuple { toList := [Value.slice x51aa x51an x51ac, Value.int .i64 x51b, Value.int .i64 x51c] }, H3)) (h9 : callInf cfg 17 [Value.slice x32aa x32an x32ac] (List.length H) H3 = some (Value.tuple { toList := [Value.slice x57aa x57an x57ac, Value.int .i64 x57b, Value.int .i64 x57c] }, H4)) (h10 : callInf cfg 18 [Value.slice x29a x29n x29c] (List.length H) H4 = some (Value.tuple { toList := [Value.agg x63a, Value.int .i64 x63b] }, H4)) (h11 : aalloc cfg.P 46 H4 = some (Value.pointer (some ⟨x16p, x16o, some x16l⟩), H5)) (h12 : x63a.toList.length = 8) (h13 : setCells H5 (List.length H) x16p x16l x16o x63a.toList = some H6) (h14 : callInf cfg 18 [Value.slice x32aa x32an x32ac] (List.length H) H6 = some (Value.tuple { toList := [Value.agg x68a, Value.int .i64 x68b] }, H6)) (h15 : aalloc cfg.P 46 H6 = some (Value.pointer (some ⟨x18p, x18o, some x18l⟩), H7)) (h16 : x68a.toList.length = 8) (h17 : setCells H7 (List.length H) x18p x18l x18o x68a.toList = some H8) (h18 : callInf cfg 7 [Value.slice x29a x29n x29c] (List.length H) H8 = some (Value.tuple { toList := [Value.int .i64 x73a, Value.int .i64 x73b] }, H8)) (h19 : callInf cfg 7 [Value.slice x32aa x32an x32ac] (List.length H) H8 = some (Value.tuple { toList := [Value.int .i64 x78a, Value.int .i64 x78b] }, H8)) (h20 : callInf cfg 11 [Value.int .i64 x51c] (List.length H) H8 = some (Value.int .i64 x82, H8)) (h21 : callInf cfg 11 [Value.int .i64 x57c] (List.length H) H8 = some (Value.int .i64 x84, H8)) (h22 : Fit .i64 (x82 + x84)) (h23 : callInf cfg 11 [Value.int .i64 x63b] (List.length H) H8 = some (Value.int .i64 x87, H8)) (h24 : Fit .i64 (x82 + x84 + x87)) (h25 : callInf cfg 11 [Value.int .i64 x68b] (List.length H) H8 = some (Value.int .i64 x90, H8)) (h26 : Fit .i64 (x82 + x84 + x87 + x90)) (h27 : callInf cfg 11 [Value.int .i64 x73b] (List.length H) H8 = some (Value.int .i64 x93, H8)) (h28 : Fit .i64 (x82 + x84 + x87 + x90 + x93)) (h29 : callInf cfg 11 [Value.int .i64 x78b] (List.length H) H8 = some (Value.int .i64 x96, H8)) (h30 : Fit .i64 (x82 + x84 + x87 + x90 + x93 + x96)) (h31 : (x82 + x84 + x87 + x90 + x93 + x96 != 0) = false) (h32 : (x51b != x57b) = false) (h33 : callInf cfg 10 [Value.slice x51aa x51an x51ac, Value.slice x57aa x57an x57ac] (List.length H) H8 = some (Value.bool x107, H8)) (h34 : (!x107) = false) (h35 : getCells H8 x16p x16l x16o 8 = some x111.toList) (h36 : getCells H8 x18p x18l x18o 8 = some x112.toList) (h37 : abin cfg.P BinOp.neq 46 (Value.agg x111) (Value.agg x112) = some (Value.bool x113)) (h38 : x113 = false) (h39 : (x73a != x78a) = false) (h40 : ¬(x73a ≥ x51b)) (h41 : ((↑x29n : Int) == 0) = false) (h42 : (↑x29n : Int) ≠ 0) (h43 : Fit .i64 (x1.tmod (↑x29n : Int) + (↑x29n : Int))) (h44 : Fit .i64 (x2.tmod (↑x29n : Int) + (↑x29n : Int))) (h45 : callInf cfg 19 [Value.slice x29a x29n x29c, Value.int .i64 ((x1.tmod (↑x29n : Int) + (↑x29n : Int)).tmod (↑x29n : Int))] (List.length H) H8 = some (Value.tuple { toList := [Value.agg x155a, Value.int .i64 x155b] }, H8)) (h46 : aalloc cfg.P 46 H8 = some (Value.pointer (some ⟨x24p, x24o, some x24l⟩), H9)) (h47 : x155a.toList.length = 8) (h48 : setCells H9 (List.length H) x24p x24l x24o x155a.toList = some H10) (h49 : callInf cfg 19 [Value.slice x32aa x32an x32ac, Value.int .i64 ((x2.tmod (↑x29n : Int) + (↑x29n : Int)).tmod (↑x29n : Int))] (List.length H) H10 = some (Value.tuple { toList := [Value.agg x161a, Value.int .i64 x161b] }, H10)) (h50 : aalloc cfg.P 46 H10 = some (Value.pointer (some ⟨x26p, x26o, some x26l⟩), H11)) (h51 : x161a.toList.length = 8) (h52 : setCells H11 (List.length H) x26p x26l x26o x161a.toList = some H12) (h53 : callInf cfg 11 [Value.int .i64 x155b] (List.length H) H12 = some (Value.int .i64 x165, H12)) (h54 : callInf cfg 11 [Value.int .i64 x161b] (List.length H) H12 = some (Value.int .i64 x167, H12)) (h55 : Fit .i64 (x165 + x167)) (h56 : (x165 + x167 == 0) = true) (h57 : getCells H12 x24p x24l x24o 8 = some x171.toList) (h58 : callInf cfg 20 [Value.agg x171, Value.int .i64 ((x2.tmod (↑x29n : Int) + (↑x29n : Int)).tmod (↑x29n : Int))] (List.length H) H12 = some (Value.bool x173, H12)) (h59 : getCells H12 x26p x26l x26o 8 = some x174.toList) (h60 : callInf cfg 20 [Value.agg x174, Value.int .i64 ((x1.tmod (↑x29n : Int) + (↑x29n : Int)).tmod (↑x29n : Int))] (List.length H) H12 = some (Value.bool x176, H12)) : callInf cfg 4 [.slice x0a x0n x0c, .int .i64 x1, .int .i64 x2] prot H = some (Value.bool (x173 == x176), H) :=
  fn_of2 a4 [.r (.slice x29a x29n x29c) H1, .r (.tuple #[.slice x32aa x32an x32ac, .int .i64 x32b]) H2, .v (.int .i64 x36), .e, .b false, .b false, .e, .b false, .b false, .e, .b false, .e, .b false, .b false, .v (.bool x46), .b false, .e, .b false, .b false, .r (.tuple #[.slice x51aa x51an x51ac, .int .i64 x51b, .int .i64 x51c]) H3, .r (.tuple #[.slice x57aa x57an x57ac, .int .i64 x57b, .int .i64 x57c]) H4, .v (.tuple #[.agg x63a, .int .i64 x63b]), .r (.pointer (some ⟨x16p, x16o, some x16l⟩)) H5, .h H6, .v (.tuple #[.agg x68a, .int .i64 x68b]), .r (.pointer (some ⟨x18p, x18o, some x18l⟩)) H7, .h H8, .v (.tuple #[.int .i64 x73a, .int .i64 x73b]), .v (.tuple #[.int .i64 x78a, .int .i64 x78b]), .v (.int .i64 x82), .v (.int .i64 x84), .e, .v (.int .i64 x87), .e, .v (.int .i64 x90), .e, .v (.int .i64 x93), .e, .v (.int .i64 x96), .e, .e, .b false, .b false, .b false, .e, .b false, .b false, .b false, .b false, .v (.bool x107), .b false, .e, .b false, .b false, .v (.agg x111), .b false, .v (.agg x112), .b false, .v (.bool x113), .b false, .b false, .b false, .b false, .e, .b false, .b false, .b false, .b false, .e, .b false, .b false, .b false, .b false, .b false, .b false, .b false, .e, .e, .b false, .e, .e, .e, .e, .e, .e, .e, .e, .e, .e, .e, .e, .v (.tuple #[.agg x155a, .int .i64 x155b]), .r (.pointer (some ⟨x24p, x24o, some x24l⟩)) H9, .h H10, .v (.tuple #[.agg x161a, .int .i64 x161b]), .r (.pointer (some ⟨x26p, x26o, some x26l⟩)) H11, .h H12, .v (.int .i64 x165), .v (.int .i64 x167), .e, .e, .b true, .v (.agg x171), .b true, .b true, .v (.bool x173), .b true, .v (.agg x174), .b true, .b true, .v (.bool x176), .b true, .e, .b true] (ai h1 (ai h2 (ai h3 (ai h4 (ai h4 (ai h4 (ai h4 (ai h4 (ai h4 (ai h5 (ai h6 (ai h5 (ai h5 (ai h7 (ai h8 (ai h9 (ai h10 (ai h11 (ai h12 (ai h13 (ai h14 (ai h15 (ai h16 (ai h17 (ai h18 (ai h19 (ai h20 (ai h21 (ai h22 (ai h23 (ai h24 (ai h25 (ai h26 (ai h27 (ai h28 (ai h29 (ai h30 (ai h31 (ai h31 (ai h31 (ai h31 (ai h32 (ai h32 (ai h32 (ai h33 (ai h32 (ai h32 (ai h34 (ai h35 (ai h34 (ai h36 (ai h34 (ai h37 (ai h34 (ai h38 (ai h38 (ai h38 (ai h38 (ai h39 (ai h39 (ai h39 (ai h39 (ai (decide_eq_false h40) (ai (decide_eq_false h40) (ai h39 (ai (decide_eq_false h40) (ai h39 (ai (Eq.refl false) (ai h41 (ai h42 (ai h43 (ai h42 (ai h42 (ai h44 (ai h42 (ai h45 (ai h46 (ai h47 (ai h48 (ai h49 (ai h50 (ai h51 (ai h52 (ai h53 (ai h54 (ai h55 (ai h56 (ai h57 (ai h56 (ai h56 (ai h58 (ai h56 (ai h59 (ai h56 (ai h56 (ai h60 (ai h56 (ai h56 (Eq.refl ((Value.bool (x173 == x176), H) : Value × AHeap)))))))))))))))))))))))))))))))))))))))))))))))))))))))))))))))))))))))))))))))))))))))))))))))))))) (by kernel_rfl) rfl
end Go.Proofs.YtkemihfaohkoeaaDoor.Am11d
namespace Go.Proofs.YtkemihfaohkoeaaDoor.Am11d
open Go Go.Proofs.YtkemihfaohkoeaaDoor.Am
/-! GraphTurned: the list with all edges turned round. -/
def tg (G : List (List Int)) : List (List Int) := (List.range G.length).map fun j => nl (turnT G j)
theorem tg_len (G : List (List Int)) : (tg G).length = G.length := by simp [tg]
theorem tg_get {G : List (List Int)} {j : Nat} (h : j < G.length) : (tg G)[j]? = some (nl (turnT G j)) := by
  unfold tg; rw [List.getElem?_map, List.getElem?_range h]; rfl
theorem sc_tg {G : List (List Int)} {j : Nat} (h : j < G.length) : sc (tg G) j = turnT G j := by
  unfold sc
  rw [List.getD_eq_getElem?_getD, tg_get h, Option.getD_some]
  unfold nl
  rw [List.map_map]
  conv => rhs; rw [← List.map_id (turnT G j)]
  exact List.map_congr_left fun x _ => by simp
theorem tg_edge {G : List (List Int)} (hG : Good G) {u v : Nat} : u ∈ sc (tg G) v ↔ v ∈ sc G u := by
  constructor
  · intro h
    have hv : v < G.length := by
      rcases Nat.lt_or_ge v G.length with h1 | h1
      · exact h1
      · unfold sc at h
        rw [List.getD_eq_getElem?_getD, List.getElem?_eq_none (by rw [tg_len]; exact h1)] at h
        simp at h
    rw [sc_tg hv] at h
    exact (turn_mem.1 h).2
  · intro h
    obtain ⟨hu, hv⟩ := sc_lt hG h
    rw [sc_tg hv]
    exact turn_mem.2 ⟨hu, h⟩
theorem tg_rch1 {G : List (List Int)} (hG : Good G) {u v : Nat} (h : Rch (tg G) u v) : Rch G v u := by
  induction h with
  | one e => exact .one ((tg_edge hG).1 e)
  | step _ e ih => exact (Rch.one ((tg_edge hG).1 e)).trans ih
theorem tg_rch2 {G : List (List Int)} (hG : Good G) {u v : Nat} (h : Rch G u v) : Rch (tg G) v u := by
  induction h with
  | one e => exact .one ((tg_edge hG).2 e)
  | step _ e ih => exact (Rch.one ((tg_edge hG).2 e)).trans ih
theorem tg_rch {G : List (List Int)} (hG : Good G) {u v : Nat} : Rch (tg G) u v ↔ Rch G v u := ⟨tg_rch1 hG, tg_rch2 hG⟩
theorem tg_mu {G : List (List Int)} (hG : Good G) : mu (tg G) = mu G := by
  funext v u
  rw [Bool.eq_iff_iff, mu_iff, mu_iff, tg_rch hG, tg_rch hG]
  exact ⟨fun h => ⟨h.2, h.1⟩, fun h => ⟨h.2, h.1⟩⟩
theorem numR_congr {G K : List (List Int)} (h : mu G = mu K) : ∀ (d v : Nat) (out : List Nat) (n : Nat), numR G d v out n = numR K d v out n
  | 0, _, _, _ => rfl
  | d + 1, v, out, n => by
    rw [numR, numR, h]
    cases findM (mu K v) v 0 with
    | some u => exact numR_congr h d _ _ _
    | none => exact numR_congr h d _ _ _
theorem tg_comp {G : List (List Int)} (hG : Good G) : comp (tg G) = comp G := by
  unfold comp
  rw [tg_len]
  exact numR_congr (tg_mu hG) _ _ _ _
theorem tg_lps {G : List (List Int)} (hG : Good G) : lps (tg G) = lps G := by
  funext x
  rw [Bool.eq_iff_iff, lps_iff, lps_iff, tg_len, tg_rch hG]
theorem tg_abv {G : List (List Int)} (hG : Good G) (c d : Nat) : abv (tg G) c d = abv G d c := by
  rw [Bool.eq_iff_iff, abv_iff, abv_iff]
  unfold Abv
  have hL : ∀ v, Lc (tg G) v = Lc G v := fun v => by unfold Lc; rw [tg_comp hG]
  constructor
  · rintro ⟨v, u, hv, hu, e1, e2, h⟩
    rw [tg_len] at hv hu
    rw [hL] at e1 e2
    refine ⟨u, v, hu, hv, e2, e1, ?_⟩
    rcases h with h | h
    · exact .inl h.symm
    · exact .inr ((tg_rch hG).1 h)
  · rintro ⟨v, u, hv, hu, e1, e2, h⟩
    refine ⟨u, v, by rw [tg_len]; exact hu, by rw [tg_len]; exact hv, by rw [hL]; exact e2, by rw [hL]; exact e1, ?_⟩
    rcases h with h | h
    · exact .inl h.symm
    · exact .inr ((tg_rch hG).2 h)
theorem climb {A B : Nat → Nat → Bool} {n : Nat} {h k : Nat → Nat} (hAB : ∀ c d, B d c = A c d) (hh : Ht A n h) (hk : Ht B n k) : ∀ m c, c < n → h c = m → ∃ d, d < n ∧ k c + m ≤ k d
  | 0, c, hc, _ => ⟨c, hc, by omega⟩
  | m + 1, c, hc, hm => by
    rcases hh.ex c hc with e | ⟨d, d1, d2, d3, e⟩
    · omega
    · obtain ⟨g, g1, g2⟩ := climb hAB hh hk m d d1 (by omega)
      have := hk.ge d c d1 hc (fun e => d2 e.symm) (by rw [hAB]; exact d3)
      exact ⟨g, g1, by omega⟩
theorem top_le {A B : Nat → Nat → Bool} {n : Nat} {h k : Nat → Nat} (hAB : ∀ c d, B d c = A c d) (hh : Ht A n h) (hk : Ht B n k) : topH h n ≤ topH k n := by
  rcases topH_ex (h := h) (n := n) with e | ⟨c, c1, c2⟩
  · omega
  · obtain ⟨d, d1, d2⟩ := climb hAB hh hk (h c) c c1 rfl
    have := topH_le (h := k) d1
    omega
theorem tg_dpt {G : List (List Int)} (hG' : Good G) : dpt (tg G) = dpt G := by
  unfold dpt
  have h1 := hG_ok (tg G)
  have h2 := hG_ok G
  rw [tg_comp hG'] at h1 ⊢
  exact Nat.le_antisymm (top_le (fun c d => (tg_abv hG' c d).symm) h1 h2) (top_le (fun c d => tg_abv hG' d c) h2 h1)
theorem tg_good {G : List (List Int)} (hG : Good G) (hE : lens G ≤ 1048576) : Good (tg G) ∧ chk (tg G) = 0 := by
  have hT : ∀ j, (turnT G j).length ≤ 1048576 := fun j => Nat.le_trans (turn_len j) hE
  have hs : Short (tg G) := fun l hl => by
    obtain ⟨j, _, rfl⟩ := List.mem_map.1 hl
    have := hT j
    simp only [nl, List.length_map]; omega
  have hr : ∀ (i : Nat) (l : List Int) (x : Int), (tg G)[i]? = some l → x ∈ l → 0 ≤ x ∧ x < G.length := fun i l x hl hx => by
    obtain ⟨j, _, rfl⟩ := List.mem_map.1 (List.mem_of_getElem? hl)
    obtain ⟨y, hy, rfl⟩ := List.mem_map.1 hx
    have := (turn_mem.1 hy).1
    omega
  refine ⟨⟨by rw [tg_len]; exact hG.1, hs, fun i l x hl hx => by rw [tg_len]; exact hr i l x hl hx⟩, ?_⟩
  unfold chk
  rw [tg_len, if_neg (by have := hG.1; omega), if_neg]
  rw [Bool.not_eq_true, List.any_eq_false]
  intro l hl
  unfold bad
  rw [Bool.not_eq_true, List.any_eq_false]
  intro x hx
  obtain ⟨i, hi⟩ := List.getElem?_of_mem hl
  have := hr i l x hi hx
  simp only [decide_eq_true_eq]
  omega
theorem mine_gr {B : Nat} {H : AHeap} {x : Value} {G : List (List Int)} (h : Mine B H x G.length (turnT G)) : Gr H x (tg G) := by
  obtain ⟨cs, c1, c2⟩ := h.rd
  refine ⟨cs, by rw [tg_len]; exact c1, fun i l hl => ?_⟩
  have hi : i < G.length := by rw [← tg_len G]; exact (List.getElem?_eq_some_iff.1 hl).1
  rw [tg_get hi] at hl
  cases hl
  obtain ⟨r, r1, r2⟩ := c2 i hi
  exact ⟨r, r1, by simpa [nl] using r2⟩
theorem law4 {G : List (List Int)} {x0 : Value} (x1 x2 : Int) (hs : Short8 G) (hE0 : lens G ≤ 1048576) (prot : Nat) (H : AHeap) (hg : Gr H x0 G) : callInf cfg 4 [x0, .int .i64 x1, .int .i64 x2] prot H = some (.bool true, H) := by
  obtain ⟨x', H1, w1, w2, w3⟩ := c17 hs H.length hg
  have hxl := w2.len
  have hEW := lens_wit G
  obtain ⟨W, hW⟩ : ∃ W, wit G = W := ⟨_, rfl⟩
  have hchk := wit_chk G
  have hsW := wit_short hs
  have hW5 : W.length ≤ 512 := by rw [← hW, wit_len]; omega
  rw [hW] at w2 hxl hchk hsW hEW
  have hG' := good_of hsW hchk
  have hE : lens W ≤ 1048576 := by omega
  obtain ⟨hT, hTc⟩ := tg_good hG' hE
  have hsT := hT.2.1
  obtain ⟨t, H2, b1, b2, b3⟩ : ∃ x'' H', callInf cfg 16 [x'] H.length H1 = some (.tuple #[x'', .int .i64 0], H') ∧ Mine H1.length H' x'' W.length (turnT W) ∧ Stay none H1 H' := by
    rcases c10 hsW hE H.length w2 with ⟨h1, _⟩ | ⟨_, h2⟩
    · exact absurd hchk h1
    · exact h2
  have gt := mine_gr b2
  have s2 := w3.trans b3
  have hk := cKnows H.length H2
  obtain ⟨a, H3, a1, a2, a3, a4⟩ : ∃ y H3, callInf cfg 17 [x'] H.length H2 = some (.tuple #[y, .int .i64 (comp W).2, .int .i64 0], H3) ∧ OwnE H3 3 y W.length (il (nl (comp W).1)) H2.length ∧ (comp W).1.length = W.length ∧ Stay none H2 H3 := by
    rcases c18 hsW H.length (w2.stay b3) with ⟨h1, _⟩ | ⟨_, h2⟩
    · exact absurd hchk h1
    · exact h2
  obtain ⟨b, H4, d1, d2, d3, d4⟩ : ∃ y H4, callInf cfg 17 [t] H.length H3 = some (.tuple #[y, .int .i64 (comp W).2, .int .i64 0], H4) ∧ OwnE H4 3 y W.length (il (nl (comp W).1)) H3.length ∧ (comp W).1.length = W.length ∧ Stay none H3 H4 := by
    rcases c18 hsT H.length (gt.stay a4) with ⟨h1, _⟩ | ⟨_, h2⟩
    · exact absurd hTc h1
    · rw [tg_comp hG', tg_len] at h2; exact h2
  have s4 := (s2.trans a4).trans d4
  have k4 := (b3.trans a4).trans d4
  have lp1 := c29 hsW H.length (w2.stay k4)
  have eV : loopsV W = (lps W, 0) := by unfold loopsV; rw [if_neg (by simp [hchk])]
  have eVT : loopsV (tg W) = (lps W, 0) := by unfold loopsV; rw [if_neg (by simp [hTc]), tg_lps hG']
  rw [eV] at lp1
  obtain ⟨HA, H6, e1, e2, e3, e4, e5⟩ := slot (lps W) H4 s4.1
  have s6 := s4.trans e4
  have lp2 := c29 hsT H.length (((gt.stay a4).stay d4).stay e4)
  rw [eVT] at lp2
  obtain ⟨HB, H8, f1, f2, f3, f4, f5⟩ := slot (lps W) H6 s6.1
  have s8 := s6.trans f4
  have g8 := ((w2.stay k4).stay e4).stay f4
  have gt8 := (((gt.stay a4).stay d4).stay e4).stay f4
  have dp1 := cDepth hsW H.length g8
  have dp2 := cDepth hsT H.length gt8
  rw [if_pos hchk, hchk] at dp1
  rw [if_pos hTc, hTc, tg_dpt hG'] at dp2
  have la := (comp_ok W).l
  have h10 := c27 (l := nl (comp W).1) (m := nl (comp W).1) (by simp [nl]; omega) H.length (by simpa [nl, a3] using ((a2.stay d4).stay (e4.trans f4)).rd) (by simpa [nl, a3] using (d2.stay (e4.trans f4)).rd)
  rw [decide_eq_true rfl] at h10
  have q1 := slot_get (show H8[H4.length]? = some (.cells (setL (lps W)) 46 8 .var) by rw [f4.2 _ (List.getElem?_eq_some_iff.1 e3).1 (by simp)]; exact e3)
  have q2 := slot_get f3
  have f0 : Fit .i64 ((0 : Int) + 0) := fit64 (by omega) (by omega)
  have hnn : ((((comp W).2 : Nat) : Int) != (((comp W).2 : Nat) : Int)) = false := by simp
  have hdd : ((((dpt W : Nat) : Int)) != ((dpt W : Nat) : Int)) = false := by simp
  have eA : (setA (lps W)).toList.length = 8 := setL_len _
  by_cases h0 : W.length = 0
  · have hn0 : (comp W).2 = 0 := by have := comp_n W; omega
    have hz : dpt W = 0 := by unfold dpt; rw [hn0]; rfl
    have tl := gt.len
    rw [tg_len] at tl
    obtain ⟨_, _, rfl⟩ := hxl
    obtain ⟨_, _, rfl⟩ := tl
    obtain ⟨_, _, rfl⟩ := a2.rd.len
    obtain ⟨_, _, rfl⟩ := d2.rd.len
    obtain ⟨_, _, rfl⟩ := hg.len
    exact f4_F_7 (x63a := setA (lps W)) (x68a := setA (lps W)) (x111 := setA (lps W)) (x112 := setA (lps W)) w1 b1 f11_F_0 (by simp) (by simp) hk rfl a1 d1 lp1 e1 eA e2 lp2 f1 eA f2 dp1 dp2 f11_F_0 f11_F_0 f0 f11_F_0 f0 f11_F_0 f0 f11_F_0 f0 f11_F_0 f0 (by simp) hnn h10 rfl q1 q2 (ne39 _) rfl hdd (by omega) (by omega) (by rw [beq_iff_eq]; omega)
  · have tm : ∀ z : Int, ∃ t : Nat, (z.tmod (W.length : Int) + (W.length : Int)).tmod (W.length : Int) = t ∧ t < W.length ∧ Fit .i64 (z.tmod (W.length : Int) + (W.length : Int)) := fun z => by
      have h1 : -(W.length : Int) < z.tmod W.length := Int.lt_tmod_of_pos z (by omega)
      have h2 := Int.tmod_lt_of_pos z (show (0 : Int) < W.length by omega)
      have h3 : 0 ≤ (z.tmod (W.length : Int) + (W.length : Int)).tmod (W.length : Int) := Int.tmod_nonneg _ (by omega)
      have h4 := Int.tmod_lt_of_pos (z.tmod (W.length : Int) + (W.length : Int)) (show (0 : Int) < W.length by omega)
      exact ⟨((z.tmod (W.length : Int) + (W.length : Int)).tmod (W.length : Int)).toNat, by omega, by omega, fit64 (by omega) (by omega)⟩
    obtain ⟨u, hu, hul, fu⟩ := tm x1
    obtain ⟨v, hv, hvl, fv⟩ := tm x2
    have hz : ((((W.length : Nat) : Int)) == 0) = false := by rw [beq_eq_false_iff_ne]; omega
    have hne0 : ((W.length : Nat) : Int) ≠ 0 := by omega
    have hcp : 0 < (comp W).2 := by have := Lc_lt hul; omega
    have hdl : dpt W < (comp W).2 := (hG_ok W).top_lt hcp
    have r1 := c19 hsW (u : Int) H.length g8
    have rV : reachV W (u : Int) = (rs W u, 0) := by
      unfold reachV
      rw [if_neg (by simp [hchk]), if_neg (by omega), Int.toNat_natCast]
    rw [rV] at r1
    obtain ⟨HC, H10, m1, m2, m3, m4, m5⟩ := slot (rs W u) H8 s8.1
    have s10 := s8.trans m4
    have r2 := c19 hsT (v : Int) H.length (gt8.stay m4)
    have rVT : reachV (tg W) (v : Int) = (rs (tg W) v, 0) := by
      unfold reachV
      rw [if_neg (by simp [hTc]), if_neg (by rw [tg_len]; omega), Int.toNat_natCast]
    rw [rVT] at r2
    obtain ⟨HD, H12, n1, n2, n3, n4, n5⟩ := slot (rs (tg W) v) H10 s10.1
    have p1 := slot_get (show H12[H8.length]? = some (.cells (setL (rs W u)) 46 8 .var) by rw [n4.2 _ (List.getElem?_eq_some_iff.1 m3).1 (by simp)]; exact m3)
    have p2 := slot_get n3
    have c1 := c20 (S := rs W u) (show v < 512 by omega) H.length H12
    have c2 := c20 (S := rs (tg W) v) (show u < 512 by omega) H.length H12
    have hrr : rs W u v = rs (tg W) v u := by
      rw [Bool.eq_iff_iff, rs_iff, rs_iff, tg_rch hG']
      exact ⟨fun h => h.imp Eq.symm id, fun h => h.imp Eq.symm id⟩
    have tl := gt.len
    rw [tg_len] at tl
    obtain ⟨_, _, rfl⟩ := hxl
    obtain ⟨_, _, rfl⟩ := tl
    obtain ⟨_, _, rfl⟩ := a2.rd.len
    obtain ⟨_, _, rfl⟩ := d2.rd.len
    obtain ⟨_, _, rfl⟩ := hg.len
    rw [← hu] at r1 c2
    rw [← hv] at r2 c1
    have := f4_F_11 (x63a := setA (lps W)) (x68a := setA (lps W)) (x111 := setA (lps W)) (x112 := setA (lps W)) (x155a := setA (rs W u)) (x161a := setA (rs (tg W) v)) (x171 := setA (rs W u)) (x174 := setA (rs (tg W) v)) (prot := prot) w1 b1 f11_F_0 (by simp) (by simp) hk rfl a1 d1 lp1 e1 eA e2 lp2 f1 eA f2 dp1 dp2 f11_F_0 f11_F_0 f0 f11_F_0 f0 f11_F_0 f0 f11_F_0 f0 f11_F_0 f0 (by simp) hnn h10 rfl q1 q2 (ne39 _) rfl hdd (by omega) hz hne0 fu fv r1 m1 (setL_len _) m2 r2 n1 (setL_len _) n2 f11_F_0 f11_F_0 f0 (by simp) p1 c1 p2 c2
    rw [hrr] at this
    simpa using this
end Go.Proofs.YtkemihfaohkoeaaDoor.Am11d
