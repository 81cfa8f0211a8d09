/- A part of the proof of a given statement: P11_35, S11_I, P11_17, S11_W, P11_9, P11_14, S11_J, P11_8, P11_4, P11_13, Law11_4, Law11_8. No condition. -/
import Derived.Test.YtkemihfaohkoeaaPart12
set_option linter.unusedVariables false
open Go Go.Proofs.Ytkemihfaohkoeaa.Am
namespace Go.Proofs.Ytkemihfaohkoeaa.Am11
theorem f35_F_0 {x0a : Option Addr} {x0n x0c : Nat} {x1a : Option Addr} {x1n x1c : Nat} {H : AHeap} {prot : Nat} {x10a : Option Addr} {x10n x10c : Nat} {x14a : Option Addr} {x14n x14c : Nat} {x16 : Bool} {x21p x21o x21l : Nat} {x22 : Int} {x30p x30o x30l : Nat} {x31 : Int} (h1 : Fit .i64 ((↑x1n : Int) + 2)) (h2 : aslice cfg.P 34 (Value.slice x0a x0n x0c) none (some (Value.int .i64 ((↑x1n : Int) + 2))) none H = some (Value.slice x10a x10n x10c)) (h3 : aslice cfg.P 34 (Value.slice x10a x10n x10c) none (some (Value.int .i64 (↑x1n : Int))) none H = some (Value.slice x14a x14n x14c)) (h4 : callInf cfg 27 [Value.slice x14a x14n x14c, Value.slice x1a x1n x1c] (List.length H) H = some (Value.bool x16, H)) (h5 : x16 = true) (h6 : aindexAddr cfg.P 34 (Value.slice x10a x10n x10c) (Value.int .i64 (↑x1n : Int)) = some (Value.pointer (some ⟨x21p, x21o, some x21l⟩))) (h7 : getCells H x21p x21l x21o 1 = some [Value.int .i64 x22]) (h8 : (x22 == -77) = true) (h9 : Fit .i64 ((↑x1n : Int) + 1)) (h10 : aindexAddr cfg.P 34 (Value.slice x10a x10n x10c) (Value.int .i64 ((↑x1n : Int) + 1)) = some (Value.pointer (some ⟨x30p, x30o, some x30l⟩))) (h11 : getCells H x30p x30l x30o 1 = some [Value.int .i64 x31]) : callInf cfg 35 [.slice x0a x0n x0c, .slice x1a x1n x1c] prot H = some (Value.bool (x31 == -78), H) :=
  fn_of2 a35 [.e, .e, .v (.slice x10a x10n x10c), .e, .v (.slice x14a x14n x14c), .v (.bool x16), .b true, .b true, .b true, .e, .b true, .v (.pointer (some ⟨x21p, x21o, some x21l⟩)), .b true, .v (.int .i64 x22), .b true, .e, .b true, .b true, .b true, .b true, .e, .b true, .e, .b true, .v (.pointer (some ⟨x30p, x30o, some x30l⟩)), .b true, .v (.int .i64 x31), .b true, .e, .b true] (ai h1 (ai h2 (ai h3 (ai h4 (ai h5 (ai h5 (ai h5 (ai h5 (ai h6 (ai h5 (ai h7 (ai h5 (ai h5 (ai h8 (ai h8 (ai h8 (ai h8 (ai h9 (ai h8 (ai h10 (ai h8 (ai h11 (ai h8 (ai h8 (Eq.refl ((Value.bool (x31 == -78), H) : Value × AHeap)))))))))))))))))))))))))) (by kernel_rfl) rfl
end Go.Proofs.Ytkemihfaohkoeaa.Am11
namespace Go.Proofs.Ytkemihfaohkoeaa.Am11
open Go Go.Proofs.Ytkemihfaohkoeaa.Am
def lentC (l : List Int) : List Value := il l ++ [.int .i64 (-77), .int .i64 (-78)]
/-- A list that was lent. -/
structure LR (H : AHeap) (r : Value) (l : List Int) (id : Nat) : Prop where
  e : r = .slice (some ⟨id, 0, some (l.length + 2)⟩) l.length (l.length + 2)
  g : ∃ wr md, wr ≤ l.length + 2 ∧ H[id]? = some (.cells (lentC l) 3 wr md)
theorem lentC_len (l) : (lentC l).length = l.length + 2 := by simp [lentC, il]
theorem LR.rd {H : AHeap} {r : Value} {l : List Int} {id : Nat} (h : LR H r l id) : Rd H 3 1 r l.length (il l) := by
  obtain ⟨wr, md, h1, h2⟩ := h.g
  refine ⟨by simp [il], .inr ⟨id, l.length + 2, wr, md, _, lentC l, h.e, h1, by rw [lentC_len]; exact Nat.le_refl _, by omega, h2, ?_⟩⟩
  unfold lentC
  rw [List.take_append_of_le_length (by simp [il]), List.take_of_length_le (by simp [il])]
theorem LR.stay {H H' : AHeap} {r : Value} {l : List Int} {id : Nat} (h : LR H r l id) {o : Option Nat} (k : Stay o H H') (ho : o ≠ some id) : LR H' r l id := by
  obtain ⟨wr, md, h1, h2⟩ := h.g
  exact ⟨h.e, wr, md, h1, by rw [k.2 id (List.getElem?_eq_some_iff.1 h2).1 ho]; exact h2⟩
theorem c32 {l : List Int} {x : Value} (hn : l.length * 8 + 16 ≤ 140737488355328) (prot : Nat) (H : AHeap) (hx : Rd H 3 1 x l.length (il l)) :
    ∃ r H', callInf cfg 32 [x] prot H = some (r, H') ∧ LR H' r l H.length ∧ Stay none H H' ∧ H'.length = H.length + 1 := by
  obtain ⟨aN, cN, rfl⟩ := hx.len
  obtain ⟨a, c, o, H1, q1, q2, q3, q4, q5⟩ := own_grow T34 (.inr rfl) hx (il_cell _) (prot := H.length) (room := true) (by omega)
  obtain ⟨HY, hHY⟩ : ∃ HY, HY = H1 ++ [AObj.cells [.int .i64 (-77), .int .i64 (-78)] 3 2 .row] := ⟨_, rfl⟩
  have hY : Rd HY 3 1 (.slice (some ⟨H1.length, 0, some (2 * 1)⟩) 2 2) 2 [.int .i64 (-77), .int .i64 (-78)] := by rw [hHY]; exact (own_new rfl (by omega) rfl rfl).rd
  have sY : Stay none H1 HY := by rw [hHY]; exact Stay.app none H1 _
  obtain ⟨o', H2, r1, r2, r3, r4, r5⟩ := own_appR T34 (q2.stay sY (fun id _ h => by cases h)) hY (by omega) rfl (prot := H.length) (room := true) q4 (by omega)
  have ho' : H.length ≤ o' := by
    cases o with
    | none => rw [r5 rfl]; have := q3.1; have := sY.1; omega
    | some id => rw [r4 id rfl]; exact q4 id rfl
  obtain ⟨h1, h2, h3, wr, h4, h5⟩ := r2
  have hlen := lentC_len l
  have hpf : gc H [.slice (some ⟨o', 0, some (lentC l).length⟩) l.length (l.length + 2)] H2 = (.slice (some ⟨H.length, 0, some (lentC l).length⟩) l.length (l.length + 2), H ++ [.cells (lentC l) 3 wr .row]) := by
    unfold gc
    have hnd : noDup (sliceIds [.slice (some ⟨o', 0, some (lentC l).length⟩) l.length (l.length + 2)]) = true := rfl
    rw [if_pos hnd]
    have h5' : H2[o']? = some (.cells (lentC l) 3 wr .row) := h5
    have hall : (lentC l).all plain0 = true := by unfold lentC; rw [List.all_append, il_plain]; rfl
    simp only [keepAll, keep1]
    rw [if_neg (by omega), h5']
    simp [hall]
    rfl
  rw [hlen] at hpf
  refine ⟨_, _, ?_, ⟨rfl, wr, .row, by rw [← hlen]; exact h4, append_get.1⟩, Stay.app none H _, by simp⟩
  have hsl : aslice cfg.P 34 (.slice (some ⟨o', 0, some ((l.length + 2) * 1)⟩) (l.length + 2) (l.length + 2)) none (some (.int .i64 (l.length : Int))) none H2 = some (.slice (some ⟨o', 0, some (l.length + 2)⟩) l.length (l.length + 2)) := by
    unfold aslice
    simp only [T34.un, boundOf, Option.bind_some, T34.sz]
    rw [if_pos (by omega)]
    simp
  subst hHY
  exact f32_F_0 _ _ q1 r1 hsl (by rw [pfin_eq]; exact hpf)

/-- Are lists the same? -/
theorem loop27 {l m : List Int} (hlm : l.length = m.length) (hl : l.length ≤ 140737488355328) {x y : Value} {H0 H : AHeap} {prot : Nat} (hx : Rd H 3 1 x l.length (il l)) (hy : Rd H 3 1 y m.length (il m)) : ∀ (d i : Nat), i + d = l.length →
    lpInf (lpOf cfg a27 0 prot H0) ([x, y, .int .i64 i], H) = some (if l.drop i = m.drop i then (.exit 0, [.tuple #[]], H) else (.ret, [.bool false], H))
  | 0, i, hi => by
    rw [List.drop_of_length_le (by omega), List.drop_of_length_le (by omega), if_pos rfl]
    obtain ⟨_, _, rfl⟩ := hx.len
    obtain ⟨_, _, rfl⟩ := hy.len
    exact lp_last (f27_L0_2 (by omega))
  | d + 1, i, hi => by
    have h1 : i < l.length := by omega
    have h2 : i < m.length := by omega
    obtain ⟨i1, L1, p1, q1⟩ := rd_at T34 hx (il_get h1)
    obtain ⟨i2, L2, p2, q2⟩ := rd_at T34 hy (il_get h2)
    have ih := loop27 hlm hl hx hy (H0 := H0) (prot := prot) d (i + 1) (by omega)
    rw [List.drop_eq_getElem_cons h1, List.drop_eq_getElem_cons h2]
    obtain ⟨_, _, rfl⟩ := hx.len
    obtain ⟨_, _, rfl⟩ := hy.len
    by_cases e : l[i] = m[i]
    · rw [e] at q1
      have e2 : (if l[i] :: l.drop (i + 1) = m[i] :: m.drop (i + 1) then ((Ex.exit 0, [Value.tuple #[]], H) : Ex × List Value × AHeap) else (.ret, [.bool false], H)) = (if l.drop (i + 1) = m.drop (i + 1) then (.exit 0, [.tuple #[]], H) else (.ret, [.bool false], H)) := by
        by_cases hh : l.drop (i + 1) = m.drop (i + 1)
        · rw [if_pos hh, if_pos (by rw [e, hh])]
        · rw [if_neg hh, if_neg (fun h => hh (List.cons.inj h).2)]
      rw [e2]
      exact lp_next (f27_L0_1 (by omega) p1 q1 p2 q2 (by simp) (fit64 (by omega) (by omega))) ih
    · rw [if_neg (by intro h; exact e (List.cons.inj h).1)]
      exact lp_last (f27_L0_0 (by omega) p1 q1 p2 q2 (by simpa using e))
theorem c27 {l m : List Int} (hl : l.length ≤ 140737488355328) {x y : Value} (prot : Nat) {H : AHeap} (hx : Rd H 3 1 x l.length (il l)) (hy : Rd H 3 1 y m.length (il m)) :
    callInf cfg 27 [x, y] prot H = some (.bool (decide (l = m)), H) := by
  have h := hx.len
  have h' := hy.len
  by_cases e : l.length = m.length
  · have hlp := loop27 e hl hx hy (H0 := H) (prot := prot) l.length 0 (by omega)
    simp only [List.drop_zero] at hlp
    obtain ⟨_, _, rfl⟩ := h
    obtain ⟨_, _, rfl⟩ := h'
    by_cases e2 : l = m
    · rw [if_pos e2] at hlp
      rw [decide_eq_true e2]
      exact f27_F_1 (by simp [e]) hlp
    · rw [if_neg e2] at hlp
      rw [decide_eq_false e2]
      exact f27_F_2 (by simp [e]) hlp
  · rw [decide_eq_false (fun h => e (by rw [h]))]
    obtain ⟨_, _, rfl⟩ := h
    obtain ⟨_, _, rfl⟩ := h'
    exact f27_F_0 (by simp; omega)

/-- Is it as it was? -/
theorem c35 {l : List Int} (hl : l.length * 8 + 16 ≤ 140737488355328) {x y : Value} {id : Nat} (prot : Nat) {H : AHeap} (hx : LR H x l id) (hy : Rd H 3 1 y l.length (il l)) :
    callInf cfg 35 [x, y] prot H = some (.bool true, H) := by
  obtain ⟨wr, md, h1, h2⟩ := hx.g
  have hrd := hx.rd
  have hxe := hx.e
  have s1 : aslice cfg.P 34 x none (some (.int .i64 ((l.length : Int) + 2))) none H = some (.slice (some ⟨id, 0, some (l.length + 2)⟩) (l.length + 2) (l.length + 2)) := by
    rw [hxe]
    unfold aslice
    simp only [T34.un, boundOf, Option.bind_some, T34.sz]
    rw [if_pos (by omega)]
    simp only [Option.bind_some]
    rw [if_pos (by omega), if_pos (by omega)]
    simp
    omega
  have s2 : aslice cfg.P 34 (.slice (some ⟨id, 0, some (l.length + 2)⟩) (l.length + 2) (l.length + 2)) none (some (.int .i64 (l.length : Int))) none H = some x := by
    rw [hxe]
    unfold aslice
    simp only [T34.un, boundOf, Option.bind_some, T34.sz]
    rw [if_pos (by omega)]
    simp
  have hall : Rd H 3 1 (.slice (some ⟨id, 0, some (l.length + 2)⟩) (l.length + 2) (l.length + 2)) (l.length + 2) (lentC l) :=
    ⟨by rw [lentC_len]; omega, .inr ⟨id, l.length + 2, wr, md, _, lentC l, rfl, h1, by rw [lentC_len]; exact Nat.le_refl _, by omega, h2, by rw [List.take_of_length_le (by rw [lentC_len]; omega)]⟩⟩
  have g1 : (lentC l)[l.length]? = some (.int .i64 (-77)) := by unfold lentC; rw [List.getElem?_append_right (by simp [il])]; simp [il]
  have g2 : (lentC l)[l.length + 1]? = some (.int .i64 (-78)) := by unfold lentC; rw [List.getElem?_append_right (by simp [il])]; simp [il]
  obtain ⟨i1, L1, p1, q1⟩ := rd_at T34 hall g1
  obtain ⟨i2, L2, p2, q2⟩ := rd_at T34 hall g2
  have h27 := c27 (by omega) H.length hrd hy
  rw [decide_eq_true rfl] at h27
  obtain ⟨_, _, rfl⟩ := hy.len
  subst hxe
  exact f35_F_0 (x31 := -78) (fit64 (by omega) (by omega)) s1 s2 h27 rfl p1 q1 rfl (fit64 (by omega) (by omega)) (by exact_mod_cast p2) q2
end Go.Proofs.Ytkemihfaohkoeaa.Am11
set_option linter.unusedVariables false
open Go Go.Proofs.Ytkemihfaohkoeaa.Am
namespace Go.Proofs.Ytkemihfaohkoeaa.Am11
end Go.Proofs.Ytkemihfaohkoeaa.Am11
namespace Go.Proofs.Ytkemihfaohkoeaa.Am11
open Go Go.Proofs.Ytkemihfaohkoeaa.Am
/-- Lists leave room for two more. -/
def Short8 (G : List (List Int)) : Prop := G.length * 24 + 48 ≤ 140737488355328 ∧ ∀ l ∈ G, l.length * 8 + 16 ≤ 140737488355328
theorem Short8.short {G : List (List Int)} (h : Short8 G) : Short G := fun l hl => by have := h.2 l hl; omega
def wrapI (n : Nat) (x : Int) : Int := (x.tmod n + n).tmod n
/-- A graph out of any lists. -/
def wit (G : List (List Int)) : List (List Int) := (G.take 512).map fun l => l.map (wrapI (min 512 G.length))
end Go.Proofs.Ytkemihfaohkoeaa.Am11
set_option linter.unusedVariables false
open Go Go.Proofs.Ytkemihfaohkoeaa.Am
namespace Go.Proofs.Ytkemihfaohkoeaa.Am11
theorem f9_F_0 {x0a : Option Addr} {x0n x0c : Nat} {H : AHeap} {prot : Nat} {z3a : Option Addr} {z3n z3c : Nat} {H1 : AHeap} (rv : Value) (rH : AHeap) (h1 : lpInf (lpOf cfg a9 0 prot H) ([Value.slice x0a x0n x0c, Value.slice none 0 0, Value.int .i64 0], H) = some (Ex.exit 0, [Value.slice z3a z3n z3c], H1)) (h2 : pfin a9 H [Value.slice z3a z3n z3c] H1 = (rv, rH)) : callInf cfg 9 [.slice x0a x0n x0c] prot H = some (rv, rH) :=
  fn_of2 a9 [.lo (.exit 0, [.slice z3a z3n z3c], H1)] (ai h1 h2) (by kernel_rfl) rfl
theorem f9_L0_0 {x0a : Option Addr} {x0n x0c : Nat} {x3a : Option Addr} {x3n x3c : Nat} {x4 : Int} {H0 : AHeap} {prot : Nat} {H : AHeap} {x14p x14o x14l : Nat} {x15a : Option Addr} {x15n x15c : Nat} {x16a : Option Addr} {x16n x16c : Nat} {H2 : AHeap} {x18a : Option Addr} {x18n x18c : Nat} {H3 : AHeap} (h1 : x4 < (↑x0n : Int)) (h2 : aindexAddr cfg.P 22 (Value.slice x0a x0n x0c) (Value.int .i64 x4) = some (Value.pointer (some ⟨x14p, x14o, some x14l⟩))) (h3 : getCells H x14p x14l x14o 1 = some [Value.slice x15a x15n x15c]) (h4 : callInf cfg 32 [Value.slice x15a x15n x15c] (List.length H0) H = some (Value.slice x16a x16n x16c, H2)) (h5 : aappend cfg.P (List.length H0) true 22 22 (Value.slice x3a x3n x3c) (Value.slice (some ⟨List.length H2, 0, some (1 * 1)⟩) 1 1) (H2 ++ [wo [Value.slice x16a x16n x16c] 34]) = some (Value.slice x18a x18n x18c, H3)) (h6 : Fit .i64 (x4 + 1)) : lpOf cfg a9 0 prot H0 ([.slice x0a x0n x0c, .slice x3a x3n x3c, .int .i64 x4], H) = some (Sum.inl ([Value.slice x0a x0n x0c, Value.slice x18a x18n x18c, Value.int .i64 (x4 + 1)], H3)) :=
  lp_of2 [.e, .e, .b true, .v (.pointer (some ⟨x14p, x14o, some x14l⟩)), .v (.slice x15a x15n x15c), .r (.slice x16a x16n x16c) H2, .e, .r (.slice x18a x18n x18c) H3, .e] (ai (decide_eq_true h1) (ai h2 (ai h3 (ai h4 (ai h5 (ai h6 (Eq.refl (Sum.inl ([Value.slice x0a x0n x0c, Value.slice x18a x18n x18c, Value.int .i64 (x4 + 1)], H3) : LS ⊕ LO)))))))) (by kernel_rfl)
theorem f9_L0_1 {x0a : Option Addr} {x0n x0c : Nat} {x3a : Option Addr} {x3n x3c : Nat} {x4 : Int} {H0 : AHeap} {prot : Nat} {H : AHeap} (h1 : ¬(x4 < (↑x0n : Int))) : lpOf cfg a9 0 prot H0 ([.slice x0a x0n x0c, .slice x3a x3n x3c, .int .i64 x4], H) = some (Sum.inr (Ex.exit 0, [Value.slice x3a x3n x3c], H)) :=
  lp_of2 [.e, .e, .b false] (ai (decide_eq_false h1) (Eq.refl (Sum.inr (Ex.exit 0, [Value.slice x3a x3n x3c], H) : LS ⊕ LO))) (by kernel_rfl)
end Go.Proofs.Ytkemihfaohkoeaa.Am11
set_option linter.unusedVariables false
open Go Go.Proofs.Ytkemihfaohkoeaa.Am
namespace Go.Proofs.Ytkemihfaohkoeaa.Am11
theorem f14_F_0 {x0a : Option Addr} {x0n x0c : Nat} {x1a : Option Addr} {x1n x1c : Nat} {H : AHeap} {prot : Nat} {z0a : Option Addr} {z0n z0c : Nat} {z1a : Option Addr} {z1n z1c : Nat} {z4 : Value} {H1 : AHeap} (h1 : lpInf (lpOf cfg a14 0 prot H) ([Value.slice x0a x0n x0c, Value.slice x1a x1n x1c, Value.int .i64 0], H) = some (Ex.exit 0, [Value.slice z0a z0n z0c, Value.slice z1a z1n z1c, z4], H1)) : callInf cfg 14 [.slice x0a x0n x0c, .slice x1a x1n x1c] prot H = some (Value.bool ((↑z0n : Int) == (↑z1n : Int)), H) :=
  fn_of2 a14 [.lo (.exit 0, [.slice z0a z0n z0c, .slice z1a z1n z1c, z4], H1), .e, .e, .e] (ai h1 (Eq.refl ((Value.bool ((↑z0n : Int) == (↑z1n : Int)), H) : Value × AHeap))) (by kernel_rfl) rfl
theorem f14_L0_0 {x0a : Option Addr} {x0n x0c : Nat} {x1a : Option Addr} {x1n x1c : Nat} {x5 : Int} {H0 : AHeap} {prot : Nat} {H : AHeap} {x14p x14o x14l : Nat} {x15a : Option Addr} {x15n x15c x18p x18o x18l : Nat} {x19a : Option Addr} {x19n x19c : Nat} {x20 : Bool} (h1 : x5 < (↑x1n : Int)) (h2 : aindexAddr cfg.P 22 (Value.slice x0a x0n x0c) (Value.int .i64 x5) = some (Value.pointer (some ⟨x14p, x14o, some x14l⟩))) (h3 : getCells H x14p x14l x14o 1 = some [Value.slice x15a x15n x15c]) (h4 : aindexAddr cfg.P 22 (Value.slice x1a x1n x1c) (Value.int .i64 x5) = some (Value.pointer (some ⟨x18p, x18o, some x18l⟩))) (h5 : getCells H x18p x18l x18o 1 = some [Value.slice x19a x19n x19c]) (h6 : callInf cfg 35 [Value.slice x15a x15n x15c, Value.slice x19a x19n x19c] (List.length H0) H = some (Value.bool x20, H)) (h7 : (!x20) = false) (h8 : Fit .i64 (x5 + 1)) : lpOf cfg a14 0 prot H0 ([.slice x0a x0n x0c, .slice x1a x1n x1c, .int .i64 x5], H) = some (Sum.inl ([Value.slice x0a x0n x0c, Value.slice x1a x1n x1c, Value.int .i64 (x5 + 1)], H)) :=
  lp_of2 [.e, .e, .b true, .v (.pointer (some ⟨x14p, x14o, some x14l⟩)), .v (.slice x15a x15n x15c), .v (.pointer (some ⟨x18p, x18o, some x18l⟩)), .v (.slice x19a x19n x19c), .v (.bool x20), .e, .b false, .e] (ai (decide_eq_true h1) (ai h2 (ai h3 (ai h4 (ai h5 (ai h6 (ai h7 (ai h8 (Eq.refl (Sum.inl ([Value.slice x0a x0n x0c, Value.slice x1a x1n x1c, Value.int .i64 (x5 + 1)], H) : LS ⊕ LO)))))))))) (by kernel_rfl)
theorem f14_L0_2 {x0a : Option Addr} {x0n x0c : Nat} {x1a : Option Addr} {x1n x1c : Nat} {x5 : Int} {H0 : AHeap} {prot : Nat} {H : AHeap} (h1 : ¬(x5 < (↑x1n : Int))) : lpOf cfg a14 0 prot H0 ([.slice x0a x0n x0c, .slice x1a x1n x1c, .int .i64 x5], H) = some (Sum.inr (Ex.exit 0, [Value.slice x0a x0n x0c, Value.slice x1a x1n x1c, Value.tuple { toList := [] }], H)) :=
  lp_of2 [.e, .e, .b false] (ai (decide_eq_false h1) (Eq.refl (Sum.inr (Ex.exit 0, [Value.slice x0a x0n x0c, Value.slice x1a x1n x1c, Value.tuple { toList := [] }], H) : LS ⊕ LO))) (by kernel_rfl)
end Go.Proofs.Ytkemihfaohkoeaa.Am11
namespace Go.Proofs.Ytkemihfaohkoeaa.Am11
open Go Go.Proofs.Ytkemihfaohkoeaa.Am
/-- A graph that was lent. -/
structure LG (H : AHeap) (x : Value) (G : List (List Int)) : Prop where
  ex : ∃ cs, Rd H 34 1 x G.length cs ∧ ∀ (i : Nat) (l : List Int), G[i]? = some l → ∃ r id, cs[i]? = some r ∧ LR H r l id
theorem LG.gr {H : AHeap} {x : Value} {G : List (List Int)} (h : LG H x G) : Gr H x G := by
  obtain ⟨cs, h1, h2⟩ := h.ex
  exact ⟨cs, h1, fun i l hl => by obtain ⟨r, id, a, b⟩ := h2 i l hl; exact ⟨r, a, b.rd⟩⟩
theorem LG.stay {H H' : AHeap} {x : Value} {G : List (List Int)} (h : LG H x G) (s : Stay none H H') : LG H' x G := by
  obtain ⟨cs, h1, h2⟩ := h.ex
  exact ⟨cs, h1.stay s, fun i l hl => by obtain ⟨r, id, a, b⟩ := h2 i l hl; exact ⟨r, id, a, b.stay s (by simp)⟩⟩
theorem LR.lt {H : AHeap} {r : Value} {l : List Int} {id : Nat} (h : LR H r l id) : id < H.length := by
  obtain ⟨_, _, _, h2⟩ := h.g
  exact (List.getElem?_eq_some_iff.1 h2).1
theorem loop9 {G : List (List Int)} {H0 : AHeap} {x0 : Value} (hg : Gr H0 x0 G) (hs : Short8 G) {prot : Nat} : ∀ (d v : Nat) (x4 : Value) (o4 : Option Nat) (cs : List Value) (H : AHeap), v + d = G.length → Stay none H0 H → Own H 34 1 x4 o4 v cs → (∀ id, o4 = some id → H0.length ≤ id) →
    (∀ (j : Nat) (l : List Int), j < v → G[j]? = some l → ∃ r id, cs[j]? = some r ∧ LR H r l id ∧ o4 ≠ some id) →
    ∃ x' o' cs' H', lpInf (lpOf cfg a9 0 prot H0) ([x0, x4, .int .i64 v], H) = some (.exit 0, [x'], H') ∧ Stay none H0 H' ∧ Own H' 34 1 x' o' G.length cs' ∧ (∀ id, o' = some id → H0.length ≤ id) ∧
      (∀ (j : Nat) (l : List Int), j < G.length → G[j]? = some l → ∃ r id, cs'[j]? = some r ∧ LR H' r l id)
  | 0, v, x4, o4, cs, H, hv, hst, hx, ho, hr => by
    have he : v = G.length := by omega
    subst he
    refine ⟨x4, o4, cs, H, ?_, hst, hx, ho, fun j l hj hl => by obtain ⟨r, id, a, b, _⟩ := hr j l hj hl; exact ⟨r, id, a, b⟩⟩
    obtain ⟨_, _, rfl⟩ := hg.len
    obtain ⟨_, _, rfl⟩ := hx.len
    exact lp_last (f9_L0_1 (by omega))
  | d + 1, v, x4, o4, cs, H, hv, hst, hx, ho, hr => by
    have hvG : v < G.length := by omega
    have hlv := hs.2 _ (List.getElem_mem hvG)
    have hl1 := hst.1
    obtain ⟨id0, L0, r0, a1, a2, a3⟩ := (hg.stay hst).row hvG
    obtain ⟨x6, H2, u1, u2, u4, u5⟩ := c32 hlv H0.length H a3
    have hx2 := hx.stay u4 (fun _ _ h => by cases h)
    have l2 := u4.1
    have h6 := u2.e
    have hcell : [x6].all isCell = true := by rw [h6]; rfl
    have hsl := hs.1
    obtain ⟨a', c', o', H3, s1, s2, s3, s4, s5, s6⟩ := own_app T22 hx2 (ecs := [x6]) rfl hcell (prot := H0.length) (room := true) ho (by omega) (by omega) (L := 1 * 1) rfl (el := [x6].length) rfl
    have hol : ∀ id, o4 = some id → id < H.length := fun id h => by
      rw [h] at hx
      exact (List.getElem?_eq_some_iff.1 hx.2.2.2.choose_spec.2).1
    have hcl : cs.length = v := by have := hx.1; omega
    obtain ⟨x', o2, cs', H', z1, z2, z3, z4, z5⟩ := loop9 hg hs (prot := prot) d (v + 1) _ (some o') (cs ++ [x6]) H3 (by omega) ((hst.trans u4).over s3 ho) s2 (fun id h => by cases h; exact s4) (fun j l hj hl => by
      by_cases he : j = v
      · subst he
        rw [List.getElem?_eq_getElem hvG] at hl
        cases hl
        refine ⟨x6, H.length, by rw [List.getElem?_append_right (by omega), hcl, Nat.sub_self]; rfl, u2.stay s3 (fun h => by have := hol _ h; omega), fun h => ?_⟩
        have h := Option.some.inj h
        cases hh : o4 with
        | none => have := s5 hh; omega
        | some k => have := s6 k hh; have := hol k hh; omega
      · obtain ⟨r, id, r1, r2, r3⟩ := hr j l (by omega) hl
        have hlow := r2.lt
        refine ⟨r, id, by rw [List.getElem?_append_left (by omega)]; exact r1, (r2.stay u4 (by simp)).stay s3 r3, fun h => ?_⟩
        have h := Option.some.inj h
        cases hh : o4 with
        | none => have := s5 hh; omega
        | some k => have := s6 k hh; exact r3 (by rw [hh, ← this, h]))
    refine ⟨x', o2, cs', H', ?_, z2, z3, z4, z5⟩
    obtain ⟨_, _, rfl⟩ := hg.len
    obtain ⟨_, _, rfl⟩ := hx.len
    obtain ⟨_, _, rfl⟩ := a3.len
    subst h6
    exact lp_next (f9_L0_0 (by omega) a1 a2 u1 s1 (fit64 (by omega) (by omega))) z1

theorem c9 {G : List (List Int)} (hs : Short8 G) {x0 : Value} (prot : Nat) {H : AHeap} (hg : Gr H x0 G) : ∃ x' H', callInf cfg 9 [x0] prot H = some (x', H') ∧ LG H' x' G ∧ Stay none H H' := by
  obtain ⟨x', o', cs', H', z1, z2, z3, z4, z5⟩ := loop9 hg hs (prot := prot) G.length 0 (.slice none 0 0) none [] H (by omega) (Stay.refl _ _) own_nil (fun id h => by cases h) (fun j l hj => by omega)
  obtain ⟨aG, cG, rfl⟩ := hg.len
  have hz3 := z3
  obtain ⟨ax, cx, hxe⟩ := z3.len
  cases ho : o' with
  | none =>
    rw [ho] at hz3
    have h0 : G.length = 0 := hz3.2.1
    have hG0 : G = [] := List.eq_nil_of_length_eq_zero (by omega)
    have hpf : pfin a9 H [x'] H' = (x', H) := by
      rw [pfin_eq, if_neg (by simp [a9])]
      rcases hz3.2.2 with hx | hx
      · rw [hx]; exact gc_plain rfl
      · rw [hx]; rfl
    refine ⟨x', H, ?_, ⟨[], ?_, fun i l hl => ?_⟩, Stay.refl _ _⟩
    · rw [hxe] at z1 hpf ⊢; exact f9_F_0 _ _ z1 hpf
    · subst hG0; exact ⟨rfl, .inl ⟨rfl, hz3.2.2⟩⟩
    · subst hG0; simp at hl
  | some id =>
    rw [ho] at hz3
    have hpos : 0 < G.length := hz3.2.1
    have hnp : cs'.all plain0 = false := by
      obtain ⟨r, id2, a, b⟩ := z5 0 _ (by omega) (List.getElem?_eq_getElem hpos)
      rw [Bool.eq_false_iff]
      intro h
      have := List.all_eq_true.1 h r (List.mem_of_getElem? a)
      rw [b.e] at this
      cases this
    have hpf : pfin a9 H [x'] H' = (x', H') := by
      rw [pfin_eq, if_neg (by simp [a9])]; exact gc_not hz3 hnp
    refine ⟨x', H', ?_, ⟨cs', z3.rd, fun i l hl => ?_⟩, z2⟩
    · rw [hxe] at z1 hpf ⊢; exact f9_F_0 _ _ z1 hpf
    · exact z5 i l (List.getElem?_eq_some_iff.1 hl).1 hl

theorem loop14 {G : List (List Int)} (hs : Short8 G) {x y : Value} {H0 H : AHeap} {prot : Nat} (hx : LG H x G) (hy : Gr H y G) : ∀ (d i : Nat), i + d = G.length →
    lpInf (lpOf cfg a14 0 prot H0) ([x, y, .int .i64 i], H) = some (.exit 0, [x, y, .tuple #[]], H)
  | 0, i, hi => by
    obtain ⟨_, _, rfl⟩ := hx.gr.len
    obtain ⟨_, _, rfl⟩ := hy.len
    exact lp_last (f14_L0_2 (by omega))
  | d + 1, i, hi => by
    have hil : i < G.length := by omega
    have hgl := hs.1
    obtain ⟨id2, L2, r2, p2, q2, k2⟩ := hy.row hil
    obtain ⟨cs, h1, h2⟩ := hx.ex
    obtain ⟨r, id, a, b⟩ := h2 i _ (List.getElem?_eq_getElem hil)
    obtain ⟨id1, L1, p1, q1⟩ := rd_at T22 h1 a
    have h35 := c35 (hs.2 _ (List.getElem_mem hil)) H0.length b k2
    have ih := loop14 hs hx hy (H0 := H0) (prot := prot) d (i + 1) (by omega)
    have he := b.e
    obtain ⟨_, _, rfl⟩ := hx.gr.len
    obtain ⟨_, _, rfl⟩ := hy.len
    obtain ⟨_, _, rfl⟩ := k2.len
    subst he
    exact lp_next (f14_L0_0 (by omega) p1 q1 p2 q2 h35 rfl (fit64 (by omega) (by omega))) ih
theorem c14 {G : List (List Int)} (hs : Short8 G) {x y : Value} (prot : Nat) {H : AHeap} (hx : LG H x G) (hy : Gr H y G) :
    callInf cfg 14 [x, y] prot H = some (.bool true, H) := by
  have h := loop14 hs hx hy (H0 := H) (prot := prot) G.length 0 (by omega)
  obtain ⟨_, _, rfl⟩ := hx.gr.len
  obtain ⟨_, _, rfl⟩ := hy.len
  have := f14_F_0 h
  simpa using this
end Go.Proofs.Ytkemihfaohkoeaa.Am11
set_option linter.unusedVariables false
open Go Go.Proofs.Ytkemihfaohkoeaa.Am
namespace Go.Proofs.Ytkemihfaohkoeaa.Am11
theorem f8_F_0 {x0a : Option Addr} {x0n x0c : Nat} {x1 : Int} {H : AHeap} {prot : Nat} {x15a : Option Addr} {x15n x15c : Nat} {H1 : AHeap} {x19a : Array Value} {x19b : Int} {x6p x6o x6l : Nat} {H2 H3 : AHeap} {x24a : Array Value} {x24b : Int} {x8p x8o x8l : Nat} {H4 H5 : AHeap} {x30a : Array Value} {x30b : Int} {x10p x10o x10l : Nat} {H6 H7 : AHeap} {x35a : Array Value} {x35b : Int} {x12p x12o x12l : Nat} {H8 H9 : AHeap} {x38 x39 : Array Value} {x40 : Bool} {x43 : Int} {x48 x49 : Array Value} {x50 : Bool} {x54 : Int} {x61 x64 : Bool} (h1 : callInf cfg 9 [Value.slice x0a x0n x0c] (List.length H) H = some (Value.slice x15a x15n x15c, H1)) (h2 : callInf cfg 19 [Value.slice x15a x15n x15c, Value.int .i64 x1] (List.length H) H1 = some (Value.tuple { toList := [Value.agg x19a, Value.int .i64 x19b] }, H1)) (h3 : aalloc cfg.P 39 H1 = some (Value.pointer (some ⟨x6p, x6o, some x6l⟩), H2)) (h4 : x19a.toList.length = 8) (h5 : setCells H2 (List.length H) x6p x6l x6o x19a.toList = some H3) (h6 : callInf cfg 29 [Value.slice x15a x15n x15c] (List.length H) H3 = some (Value.tuple { toList := [Value.agg x24a, Value.int .i64 x24b] }, H3)) (h7 : aalloc cfg.P 39 H3 = some (Value.pointer (some ⟨x8p, x8o, some x8l⟩), H4)) (h8 : x24a.toList.length = 8) (h9 : setCells H4 (List.length H) x8p x8l x8o x24a.toList = some H5) (h10 : callInf cfg 30 [Value.slice x0a x0n x0c, Value.int .i64 x1] (List.length H) H5 = some (Value.tuple { toList := [Value.agg x30a, Value.int .i64 x30b] }, H5)) (h11 : aalloc cfg.P 39 H5 = some (Value.pointer (some ⟨x10p, x10o, some x10l⟩), H6)) (h12 : x30a.toList.length = 8) (h13 : setCells H6 (List.length H) x10p x10l x10o x30a.toList = some H7) (h14 : callInf cfg 31 [Value.slice x0a x0n x0c] (List.length H) H7 = some (Value.tuple { toList := [Value.agg x35a, Value.int .i64 x35b] }, H7)) (h15 : aalloc cfg.P 39 H7 = some (Value.pointer (some ⟨x12p, x12o, some x12l⟩), H8)) (h16 : x35a.toList.length = 8) (h17 : setCells H8 (List.length H) x12p x12l x12o x35a.toList = some H9) (h18 : getCells H9 x6p x6l x6o 8 = some x38.toList) (h19 : getCells H9 x10p x10l x10o 8 = some x39.toList) (h20 : abin cfg.P BinOp.eql 39 (Value.agg x38) (Value.agg x39) = some (Value.bool x40)) (h21 : x40 = true) (h22 : callInf cfg 13 [Value.int .i64 x19b] (List.length H) H9 = some (Value.int .i64 x43, H9)) (h23 : (x43 == x30b) = true) (h24 : getCells H9 x8p x8l x8o 8 = some x48.toList) (h25 : getCells H9 x12p x12l x12o 8 = some x49.toList) (h26 : abin cfg.P BinOp.eql 39 (Value.agg x48) (Value.agg x49) = some (Value.bool x50)) (h27 : x50 = true) (h28 : callInf cfg 13 [Value.int .i64 x24b] (List.length H) H9 = some (Value.int .i64 x54, H9)) (h29 : (x54 == x35b) = true) (h30 : callInf cfg 14 [Value.slice x15a x15n x15c, Value.slice x0a x0n x0c] (List.length H) H9 = some (Value.bool x61, H9)) (h31 : x61 = true) (h32 : callInf cfg 16 [] (List.length H) H9 = some (Value.bool x64, H9)) : callInf cfg 8 [.slice x0a x0n x0c, .int .i64 x1] prot H = some (Value.bool x64, H) :=
  fn_of2 a8 [.r (.slice x15a x15n x15c) H1, .v (.tuple #[.agg x19a, .int .i64 x19b]), .r (.pointer (some ⟨x6p, x6o, some x6l⟩)) H2, .h H3, .v (.tuple #[.agg x24a, .int .i64 x24b]), .r (.pointer (some ⟨x8p, x8o, some x8l⟩)) H4, .h H5, .v (.tuple #[.agg x30a, .int .i64 x30b]), .r (.pointer (some ⟨x10p, x10o, some x10l⟩)) H6, .h H7, .v (.tuple #[.agg x35a, .int .i64 x35b]), .r (.pointer (some ⟨x12p, x12o, some x12l⟩)) H8, .h H9, .v (.agg x38), .v (.agg x39), .v (.bool x40), .b true, .b true, .v (.int .i64 x43), .b true, .b true, .e, .b true, .b true, .v (.agg x48), .b true, .v (.agg x49), .b true, .v (.bool x50), .b true, .b true, .b true, .v (.int .i64 x54), .b true, .b true, .e, .b true, .b true, .b true, .b true, .v (.bool x61), .b true, .b true, .v (.bool x64), .b true] (ai h1 (ai h2 (ai h3 (ai h4 (ai h5 (ai h6 (ai h7 (ai h8 (ai h9 (ai h10 (ai h11 (ai h12 (ai h13 (ai h14 (ai h15 (ai h16 (ai h17 (ai h18 (ai h19 (ai h20 (ai h21 (ai h21 (ai h22 (ai h21 (ai h21 (ai h21 (ai h23 (ai h24 (ai h23 (ai h25 (ai h23 (ai h26 (ai h23 (ai h27 (ai h27 (ai h28 (ai h27 (ai h27 (ai h27 (ai h29 (ai h29 (ai h29 (ai h30 (ai h29 (ai h31 (ai h32 (ai h31 (Eq.refl ((Value.bool x64, H) : Value × AHeap))))))))))))))))))))))))))))))))))))))))))))))))) (by kernel_rfl) rfl
end Go.Proofs.Ytkemihfaohkoeaa.Am11
set_option linter.unusedVariables false
open Go Go.Proofs.Ytkemihfaohkoeaa.Am
namespace Go.Proofs.Ytkemihfaohkoeaa.Am11
end Go.Proofs.Ytkemihfaohkoeaa.Am11
set_option linter.unusedVariables false
open Go Go.Proofs.Ytkemihfaohkoeaa.Am
namespace Go.Proofs.Ytkemihfaohkoeaa.Am11
theorem f13_F_0 {x0 : Int} {H : AHeap} {prot : Nat}  : callInf cfg 13 [.int .i64 x0] prot H = some (Value.int .i64 x0, H) :=
  fn_of2 a13 [] (Eq.refl ((Value.int .i64 x0, H) : Value × AHeap)) (by kernel_rfl) rfl
end Go.Proofs.Ytkemihfaohkoeaa.Am11
namespace Go.Proofs.Ytkemihfaohkoeaa.Am11
open Go Go.Proofs.Ytkemihfaohkoeaa.Am
theorem cKnows (prot : Nat) (H : AHeap) : callInf cfg 16 [] prot H = some (.bool true, H) := by
  refine callInf_body ?_
  unfold callWith
  have h : cfg.code 16 = some a16 := rfl
  rw [h]
  rfl
/-! ### Numbers of components -/
def Mu (G : List (List Int)) (u v : Nat) : Prop := Rch G u v ∧ Rch G v u
theorem Mu.symm {G : List (List Int)} {u v : Nat} (h : Mu G u v) : Mu G v u := ⟨h.2, h.1⟩
theorem Mu.trans {G : List (List Int)} {u v w : Nat} (h : Mu G u v) (k : Mu G v w) : Mu G u w := ⟨h.1.trans k.1, k.2.trans h.2⟩
/-- Numbers rise by one at most. -/
def pr : List Nat → Nat → Option Nat
  | [], m => some m
  | x :: l, m => if x ≤ m then pr l (max m (x + 1)) else none
structure NI (G : List (List Int)) (v : Nat) (out : List Nat) (n : Nat) : Prop where
  l : out.length = v
  b : ∀ i, i < v → out.getD i 0 < n
  e : ∀ u w, u < v → w < v → (out.getD u 0 = out.getD w 0 ↔ u = w ∨ Mu G u w)
  p : pr out 0 = some n
/-! ### The graph that is made -/
end Go.Proofs.Ytkemihfaohkoeaa.Am11
namespace Go.Proofs.Ytkemihfaohkoeaa.Am11
open Go Go.Proofs.Ytkemihfaohkoeaa.Am
theorem keep_slot {H H' : AHeap} {p : Nat} {S : Nat → Bool} (h : H[p]? = some (.cells (setL S) 39 8 .var)) (s : Stay none H H') : H'[p]? = some (.cells (setL S) 39 8 .var) := by
  rw [s.2 p (List.getElem?_eq_some_iff.1 h).1 (by simp)]; exact h
theorem law8 {G : List (List Int)} {x0 : Value} (x1 : Int) (hs : Short8 G) (prot : Nat) (H : AHeap) (hg : Gr H x0 G) : callInf cfg 8 [x0, .int .i64 x1] prot H = some (.bool true, H) := by
  obtain ⟨x, H1, a1, a2, a3⟩ := c9 hs H.length hg
  have hr := c19 hs.short x1 H.length a2.gr
  obtain ⟨HA, H3, b1, b2, b3, b4, b5⟩ := slot (reachV G x1).1 H1 a3.1
  have hl := c29 hs.short H.length (a2.stay b4).gr
  have s3 := a3.trans b4
  obtain ⟨HB, H5, d1, d2, d3, d4, d5⟩ := slot (loopsV G).1 H3 s3.1
  have s5 := s3.trans d4
  have hr2 := c30 hs.short x1 H.length (hg.stay s5)
  obtain ⟨HC, H7, e1, e2, e3, e4, e5⟩ := slot (reachV G x1).1 H5 s5.1
  have s7 := s5.trans e4
  have hl2 := c31 hs.short H.length (hg.stay s7)
  obtain ⟨HD, H9, f1, f2, f3, f4, f5⟩ := slot (loopsV G).1 H7 s7.1
  have s9 := s7.trans f4
  have g1 := keep_slot b3 ((d4.trans e4).trans f4)
  have g2 := keep_slot d3 (e4.trans f4)
  have g3 := keep_slot e3 f4
  have h14 := c14 hs H.length (a2.stay (((b4.trans d4).trans e4).trans f4)) (hg.stay s9)
  have hk := cKnows H.length H9
  obtain ⟨_, _, rfl⟩ := a2.gr.len
  obtain ⟨_, _, rfl⟩ := hg.len
  exact f8_F_0 a1 hr b1 (setL_len _) b2 hl d1 (setL_len _) d2 hr2 e1 (setL_len _) e2 hl2 f1 (setL_len _) f2 (slot_get g1) (slot_get g3) (eq39 _) rfl f13_F_0 (by simp) (slot_get g2) (slot_get f3) (eq39 _) rfl f13_F_0 (by simp) h14 rfl hk
end Go.Proofs.Ytkemihfaohkoeaa.Am11
