/- A part of the proof of a given statement: S11d_Fp, AmLow, P11d_26, P11d_38, P11d_39, P11d_47, S11d_Li, P11d_15, S11d_W, P11d_11, Law11d_4, S11d_P, AmSets, P11d_24, S11d_Q, AmHt, P11d_25, P11d_7, S11d_Dp, S11d_Dq, S11d_M, P11d_18, S11d_H, AmKey, S11d_N, P11d_40, P11d_41, S11d_S, P11d_30, S11d_T, P11d_31, P11d_9, S11d_Dr, P11d_5, P11d_12, S11d_J, S11d_Y, S11d_Z, Law11d_6, P11d_3. No condition. -/
import Derived.Test.YtkemihfaohkoeaaDoorPart13
namespace Go.Proofs.YtkemihfaohkoeaaDoor.Am11d
open Go Go.Proofs.YtkemihfaohkoeaaDoor.Am
/-! The document's Path. -/
def bst (N m : Nat) : Int := if m < N then (m : Int) else -1
theorem loop8l {G : List (List Int)} (hG : Good G) {H0 H : AHeap} {x0 x10 x11 : Value} (hg : Gr H x0 G) {t v prot : Nat} (hv : v < G.length) {F : Nat → Nat} (hFb : ∀ u, u < G.length → F u ≤ 100000) (hF2 : 2 ≤ F v) (hf : Rd H 3 1 x10 G.length (il (farM F G.length))) (h11 : ∃ a n c, x11 = .slice a n c) : ∀ (d i m : Nat), i + d = G[v].length → m ≤ G.length →
    lpInf (lpOf cfg a8 1 prot H0) ([x0, .int .i64 t, x10, x11, .int .i64 v, .int .i64 (bst G.length m), .int .i64 i], H) =
      some (.exit 2, [x0, .int .i64 t, x10, x11, .int .i64 (bst G.length (leastL (fun u => decide (F u + 1 = F v ∧ 0 < F u)) ((sc G v).drop i) m))], H)
  | 0, i, m, hi, hm => by
    have hl := sc_len hv
    obtain ⟨id, L, y, r1, r2, r3⟩ := hg.row hv
    rw [List.drop_of_length_le (by omega)]
    obtain ⟨_, _, rfl⟩ := hg.len
    obtain ⟨_, _, rfl⟩ := hf.len
    obtain ⟨_, _, rfl⟩ := r3.len
    obtain ⟨_, _, _, rfl⟩ := h11
    exact lp_last (f8_L1_4 r1 r2 (by omega))
  | d + 1, i, m, hi, hm => by
    have hil : i < G[v].length := by omega
    have hl := sc_len hv
    have hsh := hG.2.1 _ (List.getElem_mem hv)
    obtain ⟨u, hue, hul, hsc⟩ := sc_get hG hv hil
    have hdrop : (sc G v).drop i = u :: (sc G v).drop (i + 1) := by
      rw [List.drop_eq_getElem_cons (by omega)]
      rw [List.getElem?_eq_getElem (by omega)] at hsc
      rw [Option.some.inj hsc]
    rw [hdrop, leastL]
    obtain ⟨id, L, y, r1, r2, r3⟩ := hg.row hv
    obtain ⟨i1, L1, a1, a2⟩ := rd_at T34 r3 (il_get hil)
    rw [hue] at a2
    obtain ⟨i2, L2, b1, b2⟩ := rd_at T34 hf (farM_get hul)
    obtain ⟨i3, L3, c1, c2⟩ := rd_at T34 hf (farM_get hv)
    have fi : Fit .i64 ((i : Int) + 1) := fit64 (by omega) (by omega)
    have h1 := hFb u hul
    have h2 := hFb v hv
    have fv : Fit .i64 ((F v : Int) - 1 - 1) := fit64 (by omega) (by omega)
    have ih := fun m' (hm' : m' ≤ G.length) => loop8l hG hg (H0 := H0) (t := t) (prot := prot) (x11 := x11) hv hFb hF2 hf h11 d (i + 1) m' (by omega) hm'
    obtain ⟨ax, cx, hx0⟩ := hg.len
    obtain ⟨af, cf, hxf⟩ := hf.len
    obtain ⟨ar, cr, hy⟩ := r3.len
    obtain ⟨a11, n11, c11, hx11⟩ := h11
    by_cases e1 : F u + 1 = F v
    · have eb : (((F u : Nat) : Int) - 1 == (F v : Int) - 1 - 1) = true := by rw [beq_iff_eq]; omega
      rw [if_pos (decide_eq_true ⟨e1, by omega⟩)]
      have ih := ih (min u m) (by omega)
      have bm : bst G.length (min u m) = (u : Int) ∨ (¬ (bst G.length m < 0) ∧ ¬ ((u : Int) < bst G.length m) ∧ bst G.length (min u m) = bst G.length m) := by
        unfold bst
        by_cases hc : u ≤ m
        · rw [Nat.min_eq_left hc]; left; rw [if_pos hul]
        · rw [Nat.min_eq_right (by omega)]
          right
          rw [if_pos (show m < G.length by omega)]
          exact ⟨by omega, by omega, rfl⟩
      by_cases k1 : bst G.length m < 0
      · have e : bst G.length (min u m) = (u : Int) := by
          rcases bm with e | ⟨e, _⟩
          · exact e
          · exact absurd k1 e
        rw [e] at ih
        subst hx0; subst hxf; subst hy; subst hx11
        exact lp_next (f8_L1_0 r1 r2 (by omega) r1 r2 a1 a2 b1 b2 c1 c2 fv eb k1 fi) ih
      · by_cases k2 : (u : Int) < bst G.length m
        · have e : bst G.length (min u m) = (u : Int) := by
            rcases bm with e | ⟨_, e, _⟩
            · exact e
            · exact absurd k2 e
          rw [e] at ih
          subst hx0; subst hxf; subst hy; subst hx11
          exact lp_next (f8_L1_1 r1 r2 (by omega) r1 r2 a1 a2 b1 b2 c1 c2 fv eb k1 k2 fi) ih
        · have e : bst G.length (min u m) = bst G.length m := by
            unfold bst at k1 k2 ⊢
            split at k1
            · rename_i hlt
              rw [if_pos hlt] at k2 ⊢
              rw [Nat.min_eq_right (by omega), if_pos hlt]
            · exact absurd (show (-1 : Int) < 0 by omega) k1
          rw [e] at ih
          subst hx0; subst hxf; subst hy; subst hx11
          exact lp_next (f8_L1_2 r1 r2 (by omega) r1 r2 a1 a2 b1 b2 c1 c2 fv eb k1 k2 fi) ih
    · have eb : (((F u : Nat) : Int) - 1 == (F v : Int) - 1 - 1) = false := by rw [beq_eq_false_iff_ne]; omega
      have ih := ih m hm
      rw [if_neg (by simp; omega)]
      subst hx0; subst hxf; subst hy; subst hx11
      exact lp_next (f8_L1_3 r1 r2 (by omega) r1 r2 a1 a2 b1 b2 c1 c2 fv eb fi) ih
theorem loop8p {G : List (List Int)} (hG : Good G) {H0 : AHeap} {x0 x10 : Value} (hg : Gr H0 x0 G) {t prot : Nat} (hFb : ∀ u, u < G.length → dt G t u ≤ 100000) : ∀ (k v : Nat) (pre : List Nat) (x16 : Value) (o16 B : Nat) (H : AHeap), v < G.length → dt G t v = k + 1 → Stay none H0 H → Rd H 3 1 x10 G.length (il (farM (dt G t) G.length)) → Low B x10 → Own H 3 1 x16 (some o16) (pre.length + 1) (il (nl (pre ++ [v]))) → H0.length ≤ o16 → B ≤ o16 → pre.length + k ≤ 100000 →
    ∃ x' o' H', lpInf (lpOf cfg a8 0 prot H0) ([x0, .int .i64 t, x10, x16, .int .i64 v], H) = some (.exit 0, [x'], H') ∧ Own H' 3 1 x' (some o') (pre.length + (k + 1)) (il (nl (pre ++ pth G t k v))) ∧ H0.length ≤ o' ∧ Stay none H0 H'
  | 0, v, pre, x16, o16, B, H, hv, hd, hst, hf, hlow, hx, ho, hB, hsz => by
    have hvt := dt_one hd
    refine ⟨x16, o16, H, ?_, hx, ho, hst⟩
    obtain ⟨_, _, rfl⟩ := hg.len
    obtain ⟨_, _, rfl⟩ := hf.len
    obtain ⟨_, _, rfl⟩ := hx.len
    exact lp_last (f8_L0_1 (by rw [hvt]; simp))
  | k + 1, v, pre, x16, o16, B, H, hv, hd, hst, hf, hlow, hx, ho, hB, hsz => by
    have hnt : v ≠ t := fun e => by subst e; rw [dt_self] at hd; omega
    obtain ⟨n1, n2, n3, n4⟩ := nx_ok (v := v) (G := G) (fun u hu => (sc_lt hG hu).2) (t := t) (by omega)
    have hl := loop8l hG (hg.stay hst) (H0 := H0) (t := t) (prot := prot) hv hFb (by omega) hf (x11 := x16) (by obtain ⟨a, c, e⟩ := hx.len; exact ⟨a, _, c, e⟩) G[v].length 0 G.length (by omega) (Nat.le_refl _)
    rw [List.drop_zero] at hl
    have hnx : leastL (fun u => decide (dt G t u + 1 = dt G t v ∧ 0 < dt G t u)) (sc G v) G.length = nx G t v := rfl
    have hb0 : bst G.length G.length = -1 := by unfold bst; rw [if_neg (by omega)]
    have hb1 : bst G.length (nx G t v) = ((nx G t v : Nat) : Int) := by unfold bst; rw [if_pos n3]
    rw [hnx, hb0, hb1] at hl
    have hl0 := hst.1
    obtain ⟨a', c', o', H3, q1, q2, q3, q4, q5, q6⟩ := own_app T34 hx (ecs := [.int .i64 ((nx G t v : Nat) : Int)]) rfl rfl (prot := H0.length) (room := true) (fun id e => by cases e; exact ho) hl0 (by omega) (L := 1 * 1) rfl (el := [Value.int .i64 ((nx G t v : Nat) : Int)].length) rfl
    have e16 := q6 o16 rfl
    subst e16
    have hil : il (nl (pre ++ [v])) ++ [Value.int .i64 ((nx G t v : Nat) : Int)] = il (nl ((pre ++ [v]) ++ [nx G t v])) := by simp [il, nl]
    rw [hil] at q2
    have hf3 := hf.stayLow hlow q3 (fun id e => by cases e; exact hB)
    obtain ⟨x', o2, H', z1, z2, z3, z4⟩ := loop8p hG hg (prot := prot) hFb k (nx G t v) (pre ++ [v]) _ _ B H3 n3 (by omega) (hst.over q3 (fun id e => by cases e; exact ho)) hf3 hlow (by rw [List.length_append, List.length_singleton]; exact q2) ho hB (by rw [List.length_append, List.length_singleton]; omega)
    rw [List.length_append, List.length_singleton, List.append_assoc] at z2
    refine ⟨x', o2, H', ?_, ?_, z3, z4⟩
    · obtain ⟨_, _, rfl⟩ := hg.len
      obtain ⟨_, _, rfl⟩ := hf.len
      obtain ⟨_, _, rfl⟩ := hx.len
      exact lp_next (f8_L0_0 (by rw [bne_iff_ne]; omega) hl q1) z1
    · rw [show pre.length + (k + 1 + 1) = pre.length + 1 + (k + 1) by omega]
      exact z2
/-- What the document's Path answers: of vertices. -/
theorem cPathR {G : List (List Int)} (hG : Good G) (hE : lens G ≤ 1048576) {vG : Value} (prot : Nat) {H : AHeap} (hg : Gr H vG G) (hck : chk G = 0) {f t : Nat} (hf : f < G.length) (ht : t < G.length) (hbd : ∀ u, u < G.length → dt G t u ≤ 100000) :
    (dt G t f = 0 ∧ callInf cfg 8 [vG, .int .i64 f, .int .i64 t] prot H = some (.tuple #[.slice none 0 0, .bool false, .int .i64 0], H)) ∨
    (0 < dt G t f ∧ ∃ x' H', callInf cfg 8 [vG, .int .i64 f, .int .i64 t] prot H = some (.tuple #[x', .bool true, .int .i64 0], H') ∧ OwnE H' 3 x' (dt G t f) (il (nl (pth G t (dt G t f - 1) f))) H.length ∧ Stay none H H') := by
  have h27 := c26 hG.2.1 H.length hg
  rw [hck] at h27
  have hT : ∀ j, (turnT G j).length ≤ 1048576 := fun j => by
    have := turn_len0 (G := G) j
    omega
  obtain ⟨xt, H1, w1, w2, w3⟩ := c34 hG hE H.length hg
  have hrd := w2.rd
  obtain ⟨xf, H2, f1, f2, f3⟩ := cFar hG hT H.length hrd ht
  obtain ⟨i1, L1, p1, p2⟩ := rd_at T34 f2 (farM_get hf)
  have e21 : ((0 : Int) != 0) = false := by decide
  obtain ⟨cs, c1, _⟩ := hrd
  rcases Nat.eq_zero_or_pos (dt G t f) with hd | hd
  · refine .inl ⟨hd, ?_⟩
    obtain ⟨_, _, rfl⟩ := hg.len
    obtain ⟨_, _, rfl⟩ := c1.len
    obtain ⟨_, _, rfl⟩ := f2.len
    exact f8_F_5 h27 e21 (by omega) (by omega) (by omega) (by omega) w1 f1 p1 p2 (by omega)
  · refine .inr ⟨hd, ?_⟩
    obtain ⟨HG, hHG⟩ : ∃ HG, HG = H2 ++ [wo [.int .i64 (f : Int)] 3] := ⟨_, rfl⟩
    have sG : Stay none H2 HG := by rw [hHG]; exact Stay.app none H2 _
    have hx16 : Own HG 3 1 (.slice (some ⟨H2.length, 0, some (1 * 1)⟩) 1 1) (some H2.length) (([] : List Nat).length + 1) (il (nl ([] ++ [f]))) := by
      rw [hHG]
      exact own_new (e := 3) (s := 1) (n := 1) (cs := [.int .i64 (f : Int)]) rfl (by omega) rfl rfl
    have hst := w3.trans f3
    have hl2 := hst.1
    have hbf := hbd f hf
    obtain ⟨x', o', HF, y1, y2, y3, y4⟩ := loop8p hG hg (prot := prot) hbd (dt G t f - 1) f [] _ H2.length H2.length HG hf (by omega) (hst.trans sG) (f2.stay sG) f2.low hx16 (by omega) (by omega) (by simp; omega)
    rw [List.length_nil, Nat.zero_add, List.nil_append, show dt G t f - 1 + 1 = dt G t f by omega] at y2
    obtain ⟨x2, H', g1, g2, g3⟩ := gcE (H := H) (.inl ⟨some o', y2, fun id e => by cases e; exact y3⟩) (il_plain _) (ps := [.bool true, .int .i64 0]) rfl
    refine ⟨x2, H', ?_, g2, g3⟩
    subst hHG
    obtain ⟨_, _, rfl⟩ := hg.len
    obtain ⟨_, _, rfl⟩ := c1.len
    obtain ⟨_, _, rfl⟩ := f2.len
    obtain ⟨_, _, rfl⟩ := y2.len
    exact f8_F_6 _ _ h27 e21 (by omega) (by omega) (by omega) (by omega) w1 f1 p1 p2 (by omega) y1 (by rw [pfin_eq, if_neg (by simp [a8])]; exact g1)
end Go.Proofs.YtkemihfaohkoeaaDoor.Am11d
namespace Go.Proofs.YtkemihfaohkoeaaDoor.Am
open Go
/-! The lowest bit of a word. -/
/-- A word's bits from k on: k is in, x - 1 has the same bits above k. -/
theorem low_bits {x k : Nat} (hx : x ≠ 0) (hk : x.testBit k = true) (hl : ∀ b, b < k → x.testBit b = false) (b : Nat) :
    (x - 1).testBit b = (if b < k then true else if b = k then false else x.testBit b) := by
  have hmod : x % 2 ^ (k + 1) = 2 ^ k := by
    apply Nat.eq_of_testBit_eq
    intro j
    rw [Nat.testBit_mod_two_pow, Nat.testBit_two_pow]
    by_cases h1 : j < k
    · rw [hl j h1]; simp; omega
    · by_cases h2 : j = k
      · subst h2; simp [hk]
      · rw [decide_eq_false (show ¬ j < k + 1 by omega), decide_eq_false (show ¬ k = j by omega)]; rfl
  have hpos : 0 < 2 ^ k := Nat.two_pow_pos k
  have hq : 2 ^ (k + 1) = 2 * 2 ^ k := by rw [Nat.pow_succ]; omega
  obtain ⟨m, hm⟩ : ∃ m, x = 2 ^ (k + 1) * m + 2 ^ k := ⟨x / 2 ^ (k + 1), by have := Nat.div_add_mod x (2 ^ (k + 1)); omega⟩
  have e1 : x - 1 = 2 ^ (k + 1) * m + (2 ^ k - 1) := by omega
  rw [e1, Nat.testBit_two_pow_mul_add _ (by omega)]
  by_cases h1 : b < k
  · rw [if_pos (by omega), if_pos h1, Nat.testBit_two_pow_sub_one]; simp [h1]
  · by_cases h2 : b = k
    · rw [if_pos (by omega), if_neg h1, if_pos h2, Nat.testBit_two_pow_sub_one]; simp; omega
    · rw [if_neg (by omega), if_neg h1, if_neg h2, hm, Nat.testBit_two_pow_mul_add _ (by omega), if_neg (by omega)]
theorem low_clear {x k : Nat} (hx : x ≠ 0) (hk : x.testBit k = true) (hl : ∀ b, b < k → x.testBit b = false) (b : Nat) :
    (x &&& (x - 1)).testBit b = (x.testBit b && !decide (b = k)) := by
  rw [Nat.testBit_and, low_bits hx hk hl]
  by_cases h1 : b < k
  · rw [hl b h1]; rfl
  · rw [if_neg h1]
    by_cases h2 : b = k
    · rw [if_pos h2]; simp [h2]
    · rw [if_neg h2]; simp [h2]
theorem low_one {x k : Nat} (hx : x ≠ 0) (hlt : x < 2 ^ 64) (hk : x.testBit k = true) (hl : ∀ b, b < k → x.testBit b = false) :
    x &&& (2 ^ 64 - x) = 2 ^ k := by
  have hk64 : k < 64 := by
    apply Decidable.byContradiction
    intro h
    have : x.testBit k = false := Nat.testBit_lt_two_pow (Nat.lt_of_lt_of_le hlt (Nat.pow_le_pow_right (by omega) (by omega)))
    rw [hk] at this; cases this
  apply Nat.eq_of_testBit_eq
  intro b
  have e : 2 ^ 64 - x = 2 ^ 64 - ((x - 1) + 1) := by omega
  rw [Nat.testBit_and, e, Nat.testBit_two_pow_sub_succ (by omega), low_bits hx hk hl, Nat.testBit_two_pow]
  by_cases h1 : b < k
  · rw [hl b h1, decide_eq_false (show ¬ k = b by omega)]; rfl
  · by_cases h2 : b = k
    · subst h2; simp [hk, hk64]
    · rw [if_neg h1, if_neg h2, decide_eq_false (show ¬ k = b by omega)]
      cases x.testBit b <;> simp
/-- The table of math/bits tells where it is. -/
theorem low_table : ∀ k : Fin 64, dBtab[((2 ^ k.val % 18446744073709551616 * 285870213051353865) % 18446744073709551616) / 288230376151711744]? = some k.val := by decide +kernel
theorem ofInt_sub {x : Nat} (hx : x ≠ 0) (hlt : x < 18446744073709551616) : IntKind.u64.wrap (0 - (x : Int)) = ((18446744073709551616 - x : Nat) : Int) := by
  simp only [IntKind.wrap]
  show (if (false && decide ((0 - (x : Int)) % (18446744073709551616 : Int) ≥ (9223372036854775808 : Int))) = true then (0 - (x : Int)) % (18446744073709551616 : Int) - 18446744073709551616 else (0 - (x : Int)) % (18446744073709551616 : Int)) = _
  rw [if_neg (by simp)]
  omega
theorem ofInt_pred {x : Nat} (hx : x ≠ 0) (hlt : x < 18446744073709551616) : IntKind.u64.wrap ((x : Int) - 1) = ((x - 1 : Nat) : Int) := by
  rw [show (x : Int) - 1 = ((x - 1 : Nat) : Int) by omega, u64_wrapN, Nat.mod_eq_of_lt (by omega)]
/-- x & (x - 1) -/
theorem u64_clear {x : Nat} (hx : x ≠ 0) (hlt : x < 18446744073709551616) :
    IntKind.u64.wrap (((BitVec.ofInt IntKind.u64.bits (x : Int) &&& BitVec.ofInt IntKind.u64.bits (IntKind.u64.wrap ((x : Int) - 1))).toNat : Nat) : Int) = ((x &&& (x - 1) : Nat) : Int) := by
  rw [ofInt_pred hx hlt, BitVec.toNat_and, ofInt_natU _ hlt, ofInt_natU _ (by omega), u64_wrapN, Nat.mod_eq_of_lt (Nat.lt_of_le_of_lt Nat.and_le_left hlt)]
/-- (x & -x) * deBruijn >> 58 -/
theorem u64_low {x k : Nat} (hx : x ≠ 0) (hlt : x < 18446744073709551616) (hk : x.testBit k = true) (hl : ∀ b, b < k → x.testBit b = false) :
    (IntKind.u64.wrap (IntKind.u64.wrap (((BitVec.ofInt IntKind.u64.bits (x : Int) &&& BitVec.ofInt IntKind.u64.bits (IntKind.u64.wrap (0 - (x : Int)))).toNat : Nat) : Int) * 285870213051353865)).fdiv (2 ^ min (Int.toNat 58) IntKind.u64.bits) = (((2 ^ k % 18446744073709551616 * 285870213051353865) % 18446744073709551616 / 288230376151711744 : Nat) : Int) := by
  rw [ofInt_sub hx hlt, BitVec.toNat_and, ofInt_natU _ hlt, ofInt_natU _ (by omega)]
  rw [show x &&& (18446744073709551616 - x) = 2 ^ k from low_one hx hlt hk hl, u64_wrapN]
  rw [show (((2 ^ k % 18446744073709551616 : Nat) : Int) * 285870213051353865) = ((2 ^ k % 18446744073709551616 * 285870213051353865 : Nat) : Int) from (Int.natCast_mul _ _).symm, u64_wrapN]
  show ((_ : Nat) : Int).fdiv 288230376151711744 = _
  rw [Int.fdiv_eq_ediv_of_nonneg _ (by omega)]
  rfl
theorem low_lt {x k : Nat} (hlt : x < 18446744073709551616) (hk : x.testBit k = true) : k < 64 := by
  apply Decidable.byContradiction
  intro h
  have : x.testBit k = false := Nat.testBit_lt_two_pow (Nat.lt_of_lt_of_le (show x < 2 ^ 64 from hlt) (Nat.pow_le_pow_right (by omega) (by omega)))
  rw [hk] at this; cases this
/-- The first one of what is told, below a bound. -/
theorem first_of {p : Nat → Bool} : ∀ {n : Nat}, (∃ b, b < n ∧ p b = true) → ∃ k, k < n ∧ p k = true ∧ ∀ b, b < k → p b = false
  | 0, ⟨b, h, _⟩ => by omega
  | n + 1, ⟨b, h, hb⟩ => by
    by_cases h0 : ∃ b, b < n ∧ p b = true
    · obtain ⟨k, h1, h2, h3⟩ := first_of h0
      exact ⟨k, by omega, h2, h3⟩
    · refine ⟨n, by omega, ?_, fun c hc => ?_⟩
      · by_cases e : b = n
        · subst e; exact hb
        · exact absurd ⟨b, by omega, hb⟩ h0
      · cases hp : p c with
        | false => rfl
        | true => exact absurd ⟨c, hc, hp⟩ h0
/-! ### The numbers of a set, in order -/
def lst (S : Nat → Bool) (n : Nat) : List Nat := (List.range n).filter S
theorem lst_more {S : Nat → Bool} {a : Nat} : ∀ {b : Nat}, a ≤ b → (∀ i, a ≤ i → i < b → S i = false) → lst S b = lst S a
  | 0, h, _ => by have : a = 0 := by omega
                  subst this; rfl
  | b + 1, h, hn => by
    by_cases e : a = b + 1
    · subst e; rfl
    · have := lst_more (b := b) (by omega) (fun i h1 h2 => hn i h1 (by omega))
      rw [← this]
      unfold lst
      rw [List.range_succ, List.filter_append, List.filter_cons, if_neg (by rw [hn b (by omega) (by omega)]; simp)]
      simp
theorem lst_next {S : Nat → Bool} {a k : Nat} (h : a ≤ k) (hk : S k = true) (hn : ∀ i, a ≤ i → i < k → S i = false) : lst S (k + 1) = lst S a ++ [k] := by
  rw [← lst_more h hn]
  unfold lst
  rw [List.range_succ, List.filter_append, List.filter_cons, if_pos hk]
  rfl
theorem lst_len (S : Nat → Bool) (n : Nat) : (lst S n).length ≤ n := by
  have := List.length_filter_le S (List.range n)
  rw [List.length_range] at this
  exact this
theorem lst_mem {S : Nat → Bool} {n i : Nat} : i ∈ lst S n ↔ i < n ∧ S i = true := by
  unfold lst; rw [List.mem_filter, List.mem_range]
end Go.Proofs.YtkemihfaohkoeaaDoor.Am
set_option linter.unusedVariables false
open Go Go.Proofs.YtkemihfaohkoeaaDoor.Am
namespace Go.Proofs.YtkemihfaohkoeaaDoor.Am11d
theorem f26_F_0 {x0 : Array Value} {H : AHeap} {prot : Nat} {x4 : Array Value} {H1 : AHeap} {x7a : Option Addr} {x7n x7c : Nat} (rv : Value) (rH : AHeap) (h1 : x0.toList.all isCell = true) (h2 : getCells (H ++ [AObj.cells x0.toList 46 x0.toList.length OMode.var] ++ [vo [Value.slice none 0 0] 24]) (List.length H) x0.toList.length 0 8 = some x4.toList) (h3 : callInf cfg 38 [Value.agg x4, Value.func (Fn.func 39) { toList := [] } { toList := [Value.pointer (some ⟨List.length (H ++ [AObj.cells x0.toList 46 x0.toList.length OMode.var]), 0, some [Value.slice none 0 0].length⟩)] }] (List.length H) (H ++ [AObj.cells x0.toList 46 x0.toList.length OMode.var] ++ [vo [Value.slice none 0 0] 24]) = some (Value.tuple { toList := [] }, H1)) (h4 : getCells H1 (List.length (H ++ [AObj.cells x0.toList 46 x0.toList.length OMode.var])) [Value.slice none 0 0].length 0 1 = some [Value.slice x7a x7n x7c]) (h5 : pfin a26 H [Value.slice x7a x7n x7c] H1 = (rv, rH)) : callInf cfg 26 [.agg x0] prot H = some (rv, rH) :=
  fn_of2 a26 [.e, .e, .v (.agg x4), .r (.tuple #[]) H1, .v (.slice x7a x7n x7c)] (ai h1 (ai h2 (ai h3 (ai h4 h5)))) (by kernel_rfl) rfl
end Go.Proofs.YtkemihfaohkoeaaDoor.Am11d
set_option linter.unusedVariables false
open Go Go.Proofs.YtkemihfaohkoeaaDoor.Am
namespace Go.Proofs.YtkemihfaohkoeaaDoor.Am11d
theorem f38_F_0 {x0 : Array Value} {x1ap x1ao x1al : Nat} {H : AHeap} {prot : Nat} {x6 : Array Value} {H1 : AHeap} (h1 : x0.toList.all isCell = true) (h2 : getCells (H ++ [AObj.cells x0.toList 46 x0.toList.length OMode.var]) (List.length H) x0.toList.length 0 8 = some x6.toList) (h3 : lpInf (lpOf cfg a38 0 prot H) ([Value.func (Fn.func 39) { toList := [] } { toList := [Value.pointer (some ⟨x1ap, x1ao, some x1al⟩)] }, Value.agg x6, Value.int .i64 0], H ++ [AObj.cells x0.toList 46 x0.toList.length OMode.var]) = some (Ex.exit 0, [], H1)) : callInf cfg 38 [.agg x0, .func (.func 39) #[] #[.pointer (some ⟨x1ap, x1ao, some x1al⟩)]] prot H = some (Value.tuple { toList := [] }, H1) :=
  fn_of2 a38 [.e, .v (.agg x6), .lo (.exit 0, [], H1)] (ai h1 (ai h2 (ai h3 (Eq.refl ((Value.tuple { toList := [] }, H1) : Value × AHeap))))) (by kernel_rfl) rfl
theorem f38_L0_0 {x1ap x1ao x1al : Nat} {x6 : Array Value} {x7 : Int} {H0 : AHeap} {prot : Nat} {H : AHeap} {x10 : Int} {z1ap z1ao z1al : Nat} {z6 : Array Value} {z7 : Int} {H2 : AHeap} (h1 : x7 < 8) (h2 : aindex cfg.P 46 (Value.agg x6) (Value.int .i64 x7) = some (Value.int .u64 x10)) (h3 : lpInf (lpOf cfg a38 1 prot H0) ([Value.func (Fn.func 39) { toList := [] } { toList := [Value.pointer (some ⟨x1ap, x1ao, some x1al⟩)] }, Value.int .i64 x7, Value.int .u64 x10, Value.agg x6, Value.int .i64 x7], H) = some (Ex.exit 2, [Value.func (Fn.func 39) { toList := [] } { toList := [Value.pointer (some ⟨z1ap, z1ao, some z1al⟩)] }, Value.agg z6, Value.int .i64 z7], H2)) (h4 : Fit .i64 (z7 + 1)) : lpOf cfg a38 0 prot H0 ([.func (.func 39) #[] #[.pointer (some ⟨x1ap, x1ao, some x1al⟩)], .agg x6, .int .i64 x7], H) = some (Sum.inl ([Value.func (Fn.func 39) { toList := [] } { toList := [Value.pointer (some ⟨z1ap, z1ao, some z1al⟩)] }, Value.agg z6, Value.int .i64 (z7 + 1)], H2)) :=
  lp_of2 [.e, .b true, .v (.int .u64 x10), .lo (.exit 2, [.func (.func 39) #[] #[.pointer (some ⟨z1ap, z1ao, some z1al⟩)], .agg z6, .int .i64 z7], H2), .e] (ai (decide_eq_true h1) (ai h2 (ai h3 (ai h4 (Eq.refl (Sum.inl ([Value.func (Fn.func 39) { toList := [] } { toList := [Value.pointer (some ⟨z1ap, z1ao, some z1al⟩)] }, Value.agg z6, Value.int .i64 (z7 + 1)], H2) : LS ⊕ LO)))))) (by kernel_rfl)
theorem f38_L0_2 {x1ap x1ao x1al : Nat} {x6 : Array Value} {x7 : Int} {H0 : AHeap} {prot : Nat} {H : AHeap} (h1 : ¬(x7 < 8)) : lpOf cfg a38 0 prot H0 ([.func (.func 39) #[] #[.pointer (some ⟨x1ap, x1ao, some x1al⟩)], .agg x6, .int .i64 x7], H) = some (Sum.inr (Ex.exit 0, [], H)) :=
  lp_of2 [.e, .b false] (ai (decide_eq_false h1) (Eq.refl (Sum.inr (Ex.exit 0, [], H) : LS ⊕ LO))) (by kernel_rfl)
theorem f38_L1_0 {x1ap x1ao x1al : Nat} {x4 x5 : Int} {x6 : Array Value} {x7 : Int} {H0 : AHeap} {prot : Nat} {H : AHeap} {x21 : Int} {x23 : Bool} {H2 : AHeap} (h1 : (x5 != 0) = true) (h2 : Fit .i64 (64 * x4)) (h3 : callInf cfg 47 [Value.int .u64 x5] prot H = some (Value.int .i64 x21, H)) (h4 : Fit .i64 (64 * x4 + x21)) (h5 : callInf cfg 39 [Value.int .i64 (64 * x4 + x21), Value.pointer (some ⟨x1ap, x1ao, some x1al⟩)] prot H = some (Value.bool x23, H2)) (h6 : (!x23) = false) : lpOf cfg a38 1 prot H0 ([.func (.func 39) #[] #[.pointer (some ⟨x1ap, x1ao, some x1al⟩)], .int .i64 x4, .int .u64 x5, .agg x6, .int .i64 x7], H) = some (Sum.inl ([Value.func (Fn.func 39) { toList := [] } { toList := [Value.pointer (some ⟨x1ap, x1ao, some x1al⟩)] }, Value.int .i64 x4, Value.int .u64 (IntKind.u64.wrap (↑(BitVec.ofInt IntKind.u64.bits x5 &&& BitVec.ofInt IntKind.u64.bits (IntKind.u64.wrap (x5 - 1))).toNat : Int)), Value.agg x6, Value.int .i64 x7], H2)) :=
  lp_of2 [.e, .b true, .e, .v (.int .i64 x21), .e, .r (.bool x23) H2, .e, .b false, .e, .e] (ai h1 (ai h2 (ai h3 (ai h4 (ai h5 (ai h6 (Eq.refl (Sum.inl ([Value.func (Fn.func 39) { toList := [] } { toList := [Value.pointer (some ⟨x1ap, x1ao, some x1al⟩)] }, Value.int .i64 x4, Value.int .u64 (IntKind.u64.wrap (↑(BitVec.ofInt IntKind.u64.bits x5 &&& BitVec.ofInt IntKind.u64.bits (IntKind.u64.wrap (x5 - 1))).toNat : Int)), Value.agg x6, Value.int .i64 x7], H2) : LS ⊕ LO)))))))) (by kernel_rfl)
theorem f38_L1_2 {x1ap x1ao x1al : Nat} {x4 x5 : Int} {x6 : Array Value} {x7 : Int} {H0 : AHeap} {prot : Nat} {H : AHeap} (h1 : (x5 != 0) = false) : lpOf cfg a38 1 prot H0 ([.func (.func 39) #[] #[.pointer (some ⟨x1ap, x1ao, some x1al⟩)], .int .i64 x4, .int .u64 x5, .agg x6, .int .i64 x7], H) = some (Sum.inr (Ex.exit 2, [Value.func (Fn.func 39) { toList := [] } { toList := [Value.pointer (some ⟨x1ap, x1ao, some x1al⟩)] }, Value.agg x6, Value.int .i64 x7], H)) :=
  lp_of2 [.e, .b false] (ai h1 (Eq.refl (Sum.inr (Ex.exit 2, [Value.func (Fn.func 39) { toList := [] } { toList := [Value.pointer (some ⟨x1ap, x1ao, some x1al⟩)] }, Value.agg x6, Value.int .i64 x7], H) : LS ⊕ LO))) (by kernel_rfl)
end Go.Proofs.YtkemihfaohkoeaaDoor.Am11d
set_option linter.unusedVariables false
open Go Go.Proofs.YtkemihfaohkoeaaDoor.Am
namespace Go.Proofs.YtkemihfaohkoeaaDoor.Am11d
theorem f39_F_0 {x0 : Int} {x1p x1o x1l : Nat} {H : AHeap} {prot : Nat} {x4a : Option Addr} {x4n x4c : Nat} {x7a : Option Addr} {x7n x7c : Nat} {H1 H2 : AHeap} (h1 : getCells H x1p x1l x1o 1 = some [Value.slice x4a x4n x4c]) (h2 : aappend cfg.P prot true 24 24 (Value.slice x4a x4n x4c) (Value.slice (some ⟨List.length H, 0, some (1 * 1)⟩) 1 1) (H ++ [wo [Value.int .i64 x0] 3]) = some (Value.slice x7a x7n x7c, H1)) (h3 : [Value.slice x7a x7n x7c].length = 1) (h4 : setCells H1 prot x1p x1l x1o [Value.slice x7a x7n x7c] = some H2) : callInf cfg 39 [.int .i64 x0, .pointer (some ⟨x1p, x1o, some x1l⟩)] prot H = some (Value.bool true, H2) :=
  fn_of2 a39 [.v (.slice x4a x4n x4c), .e, .r (.slice x7a x7n x7c) H1, .h H2] (ai h1 (ai h2 (ai h3 (ai h4 (Eq.refl ((Value.bool true, H2) : Value × AHeap)))))) (by kernel_rfl) rfl
end Go.Proofs.YtkemihfaohkoeaaDoor.Am11d
set_option linter.unusedVariables false
open Go Go.Proofs.YtkemihfaohkoeaaDoor.Am
namespace Go.Proofs.YtkemihfaohkoeaaDoor.Am11d
theorem f47_F_1 {x0 : Int} {H : AHeap} {prot : Nat} {x12 : Int} (h1 : (x0 == 0) = false) (h2 : (0 : Int) ≤ 58) (h3 : 0 ≤ (IntKind.u64.wrap (IntKind.u64.wrap (↑(BitVec.ofInt IntKind.u64.bits x0 &&& BitVec.ofInt IntKind.u64.bits (IntKind.u64.wrap (0 - x0))).toNat : Int) * 285870213051353865)).fdiv (2 ^ min (Int.toNat 58) IntKind.u64.bits)) (h4 : (IntKind.u64.wrap (IntKind.u64.wrap (↑(BitVec.ofInt IntKind.u64.bits x0 &&& BitVec.ofInt IntKind.u64.bits (IntKind.u64.wrap (0 - x0))).toNat : Int) * 285870213051353865)).fdiv (2 ^ min (Int.toNat 58) IntKind.u64.bits) < (↑64 : Int)) (h5 : knownAt cfg.P 0 (0 + ((IntKind.u64.wrap (IntKind.u64.wrap (↑(BitVec.ofInt IntKind.u64.bits x0 &&& BitVec.ofInt IntKind.u64.bits (IntKind.u64.wrap (0 - x0))).toNat : Int) * 285870213051353865)).fdiv (2 ^ min (Int.toNat 58) IntKind.u64.bits)).toNat * 1) = some (Value.int .u8 x12)) (h6 : Fit .i64 x12) : callInf cfg 47 [.int .u64 x0] prot H = some (Value.int .i64 x12, H) :=
  fn_of2 a47 [.e, .b false, .e, .e, .e, .e, .e, .v (.int .u8 x12), .e] (ai h1 (ai h2 (ai h3 (ai h4 (ai h5 (ai h6 (Eq.refl ((Value.int .i64 x12, H) : Value × AHeap)))))))) (by kernel_rfl) rfl
end Go.Proofs.YtkemihfaohkoeaaDoor.Am11d
namespace Go.Proofs.YtkemihfaohkoeaaDoor.Am11d
open Go Go.Proofs.YtkemihfaohkoeaaDoor.Am
/-! bits.List -/
theorem kn0 : known cfg.P 0 = some (dBtab.map fun (n : Nat) => .int .u8 (n : Int)) := by kernel_rfl
theorem cTz {x k : Nat} (hx : x ≠ 0) (hlt : x < 18446744073709551616) (hk : x.testBit k = true) (hl : ∀ b, b < k → x.testBit b = false) (prot : Nat) (H : AHeap) :
    callInf cfg 47 [.int .u64 x] prot H = some (.int .i64 k, H) := by
  have hk64 := low_lt hlt hk
  have e := u64_low hx hlt hk hl
  have ht := low_table ⟨k, hk64⟩
  have hlt64 := (List.getElem?_eq_some_iff.1 ht).1
  have h64 : dBtab.length = 64 := rfl
  refine f47_F_1 (x12 := (k : Int)) (by simp; omega) (by omega) (by rw [e]; omega) (by rw [e]; simp only at hlt64; omega) ?_ (fit64 (by omega) (by omega))
  rw [e, Int.toNat_natCast, Nat.zero_add, Nat.mul_one]
  unfold knownAt
  rw [kn0, Option.bind_some, List.getElem?_map, ht]
  rfl
/-- A variable that holds a growing list of one's own. -/
structure LV (B H : AHeap) (p : Nat) (l : List Nat) : Prop where
  v : ∃ x o, H[p]? = some (.cells [x] 24 1 .var) ∧ Own H 3 1 x o l.length (il (nl l)) ∧ ∀ id, o = some id → B.length ≤ id ∧ id ≠ p
  st : Stay none B H
  lo : B.length ≤ p
theorem il_app (l : List Nat) (i : Nat) : il (nl l) ++ [Value.int .i64 (i : Int)] = il (nl (l ++ [i])) := by simp [il, nl]
theorem cPut {B H : AHeap} {p i : Nat} {l : List Nat} (h : LV B H p l) (hl : l.length ≤ 1000000) : ∃ H', callInf cfg 39 [.int .i64 i, .pointer (some ⟨p, 0, some 1⟩)] B.length H = some (.bool true, H') ∧ LV B H' p (l ++ [i]) := by
  obtain ⟨x, o, g, ho, hid⟩ := h.v
  obtain ⟨a, c, rfl⟩ := ho.len
  have hpl := (List.getElem?_eq_some_iff.1 g).1
  have hBH := h.st.1
  obtain ⟨a', c', o', H1, q1, q2, q3, q4, q5, q6⟩ := own_app T34 ho (ecs := [.int .i64 (i : Int)]) rfl rfl (prot := B.length) (room := true) (fun id e => (hid id e).1) hBH (by omega) (L := 1 * 1) rfl (el := [Value.int .i64 (i : Int)].length) rfl
  rw [il_app] at q2
  have hne : o ≠ some p := fun e => (hid p e).2 rfl
  have g1 : H1[p]? = some (.cells [.slice a l.length c] 24 1 .var) := by rw [q3.2 p hpl hne]; exact g
  have ho' : o' ≠ p := by
    cases o with
    | none => have := q5 rfl; omega
    | some id => rw [q6 id rfl]; exact (hid id rfl).2
  obtain ⟨H2, hH2⟩ : ∃ H2, H2 = H1.set p (.cells [.slice a' (l.length + 1) c'] 24 1 .var) := ⟨_, rfl⟩
  have s2 : Stay (some p) H1 H2 := by rw [hH2]; exact set_stay
  have e2 : setCells H1 B.length p 1 0 [.slice a' (l.length + 1) c'] = some H2 := by rw [hH2]; exact arr_put g1 rfl h.lo rfl rfl
  have hpl1 := (List.getElem?_eq_some_iff.1 g1).1
  refine ⟨H2, f39_F_0 (one_get g) q1 rfl e2, ⟨⟨_, some o', by rw [hH2, List.getElem?_set_self hpl1], ?_, fun id e => by cases e; exact ⟨q4, ho'⟩⟩, (h.st.over q3 (fun id e => (hid id e).1)).over s2 (fun id e => by cases e; exact h.lo), h.lo⟩⟩
  rw [List.length_append, List.length_singleton]
  exact q2.stay s2 (fun id e1 e2 => by cases e1; exact ho' (Option.some.inj e2).symm)

theorem un46 : cfg.P.underlying 46 = some (.array 8 44) := by kernel_rfl
theorem sz44 : tsize cfg.P 44 = some 1 := by kernel_rfl
theorem ag44 : tagg cfg.P 44 = some false := by kernel_rfl
theorem set_index {S : Nat → Bool} {w : Nat} (h : w < 8) : aindex cfg.P 46 (.agg (setA S)) (.int .i64 w) = some (.int .u64 ((wordS S w : Nat) : Int)) := by
  have hg := setL_get (S := S) h
  have hl := setL_len S
  unfold aindex
  rw [un46]
  simp only [sz44, Option.bind_some]
  rw [if_pos ⟨by omega, by omega⟩]
  unfold apart
  rw [ag44, sz44]
  simp only
  rw [Int.toNat_natCast, Nat.mul_one]
  show (if w < (setL S).length then some ((setL S).getD w undef) else none) = _
  rw [if_pos (by omega), List.getD_eq_getElem?_getD, hg]; rfl
/-- One word's bits. -/
theorem loop38i {B : AHeap} {S : Nat → Bool} {A : Array Value} {w p : Nat} {H0 : AHeap} (hw : w < 8) : ∀ (d k : Nat) (H : AHeap), k + d = 64 → LV B H p (lst S (64 * w + k)) →
    ∃ H', lpInf (lpOf cfg a38 1 B.length H0) ([.func (.func 39) #[] #[.pointer (some ⟨p, 0, some 1⟩)], .int .i64 w, .int .u64 ((natOf (fun b => S (64 * w + b) && decide (k ≤ b)) 64 : Nat) : Int), .agg A, .int .i64 w], H)
      = some (.exit 2, [.func (.func 39) #[] #[.pointer (some ⟨p, 0, some 1⟩)], .agg A, .int .i64 w], H') ∧ LV B H' p (lst S (64 * w + 64)) := by
  intro d
  induction d using Nat.strongRecOn with
  | _ d ih =>
    intro k H hd hL
    have hlt := natOf_lt (fun b => S (64 * w + b) && decide (k ≤ b)) 64
    have hbit := fun j => natOf_bit (fun b => S (64 * w + b) && decide (k ≤ b)) j 64
    by_cases hx : natOf (fun b => S (64 * w + b) && decide (k ≤ b)) 64 = 0
    · refine ⟨H, ?_, ?_⟩
      · rw [hx]; exact lp_last (f38_L1_2 (by simp))
      · rw [lst_more (a := 64 * w + k) (by omega) (fun i h1 h2 => ?_)]
        · exact hL
        · have hb := hbit (i - 64 * w)
          rw [hx] at hb
          simp only [Nat.zero_testBit] at hb
          rw [decide_eq_true (show i - 64 * w < 64 by omega), show 64 * w + (i - 64 * w) = i by omega, decide_eq_true (show k ≤ i - 64 * w by omega)] at hb
          simpa using hb.symm
    · generalize hX : natOf (fun b => S (64 * w + b) && decide (k ≤ b)) 64 = X at *
      obtain ⟨j, hj⟩ := Nat.exists_testBit_of_ne_zero hx
      have hj64 := low_lt hlt hj
      obtain ⟨t, t1, t2, t3⟩ := first_of (p := fun b => X.testBit b) ⟨j, hj64, hj⟩
      have hbt := hbit t
      rw [t2, decide_eq_true t1, Bool.true_and] at hbt
      have hbt := (Bool.and_eq_true _ _).mp hbt.symm
      have hkt : k ≤ t := by simpa using hbt.2
      have hnone : ∀ i, 64 * w + k ≤ i → i < 64 * w + t → S i = false := fun i h1 h2 => by
        have hb := hbit (i - 64 * w)
        rw [t3 _ (by omega), decide_eq_true (show i - 64 * w < 64 by omega), show 64 * w + (i - 64 * w) = i by omega, decide_eq_true (show k ≤ i - 64 * w by omega)] at hb
        simpa using hb.symm
      have hnext := lst_next (show 64 * w + k ≤ 64 * w + t by omega) hbt.1 hnone
      have hlen := lst_len S (64 * w + k)
      obtain ⟨H2, c1, c2⟩ := cPut (i := 64 * w + t) hL (by omega)
      rw [← hnext] at c2
      have hclr : X &&& (X - 1) = natOf (fun b => S (64 * w + b) && decide (t + 1 ≤ b)) 64 := by
        apply Nat.eq_of_testBit_eq
        intro b
        rw [low_clear hx t2 t3, natOf_bit, hbit]
        by_cases hb : b < 64
        · rw [decide_eq_true hb, Bool.true_and, Bool.true_and]
          by_cases h1 : b < t
          · rw [decide_eq_false (show ¬ t + 1 ≤ b by omega), Bool.and_false]
            have := hbit b
            rw [t3 b h1, decide_eq_true hb, Bool.true_and] at this
            rw [← this]; rfl
          · by_cases h2 : b = t
            · subst h2; simp
            · rw [decide_eq_true (show t + 1 ≤ b by omega), decide_eq_true (show k ≤ b by omega), decide_eq_false h2]; simp
        · rw [decide_eq_false hb]; rfl
      obtain ⟨H', z1, z2⟩ := ih (63 - t) (by omega) (t + 1) H2 (by omega) c2
      refine ⟨H', ?_, z2⟩
      have e1 : (64 : Int) * (w : Int) + (t : Int) = ((64 * w + t : Nat) : Int) := by push_cast; rfl
      rw [← hclr] at z1
      rw [← u64_clear hx hlt] at z1
      refine lp_next (f38_L1_0 (x21 := (t : Int)) (by simp; omega) (fit64 (by omega) (by omega)) (cTz hx hlt t2 t3 _ _) (fit64 (by omega) (by omega)) (by rw [e1]; exact c1) rfl) z1
theorem loop38o {B : AHeap} {S : Nat → Bool} {p : Nat} {H0 : AHeap} : ∀ (d w : Nat) (H : AHeap), w + d = 8 → LV B H p (lst S (64 * w)) →
    ∃ H', lpInf (lpOf cfg a38 0 B.length H0) ([.func (.func 39) #[] #[.pointer (some ⟨p, 0, some 1⟩)], .agg (setA S), .int .i64 w], H) = some (.exit 0, [], H') ∧ LV B H' p (lst S 512)
  | 0, w, H, hw, hL => by
    have : w = 8 := by omega
    subst this
    exact ⟨H, lp_last (f38_L0_2 (by omega)), hL⟩
  | d + 1, w, H, hw, hL => by
    obtain ⟨H2, z1, z2⟩ := loop38i (A := setA S) (S := S) (p := p) (H0 := H0) (show w < 8 by omega) 64 0 H (by omega) hL
    obtain ⟨H', y1, y2⟩ := loop38o d (w + 1) H2 (by omega) z2
    refine ⟨H', ?_, y2⟩
    have e0 : natOf (fun b => S (64 * w + b) && decide (0 ≤ b)) 64 = wordS S w := by
      unfold wordS
      congr 1
      funext b
      simp
    rw [e0] at z1
    have hidx : aindex cfg.P 46 (.agg (setA S)) (.int .i64 w) = some (.int .u64 ((wordS S w : Nat) : Int)) := set_index (by omega)
    exact lp_next (f38_L0_0 (by omega) hidx z1 (fit64 (by omega) (by omega))) y1
theorem c38e {B : AHeap} {S : Nat → Bool} {p : Nat} {H : AHeap} (h : LV B H p []) :
    ∃ H', callInf cfg 38 [.agg (setA S), .func (.func 39) #[] #[.pointer (some ⟨p, 0, some 1⟩)]] B.length H = some (.tuple #[], H') ∧ LV B H' p (lst S 512) := by
  obtain ⟨HA, hHA⟩ : ∃ HA, HA = H ++ [AObj.cells (setL S) 46 (setL S).length .var] := ⟨_, rfl⟩
  have sA : Stay none H HA := by rw [hHA]; exact Stay.app none H _
  have gA : HA[H.length]? = some (.cells (setL S) 46 8 .var) := by rw [hHA, append_get.1, setL_len]
  have hLA : LV B HA p (lst S (64 * 0)) := by
    obtain ⟨x, o, g, ho, hid⟩ := h.v
    exact ⟨⟨x, o, by rw [sA.2 _ (List.getElem?_eq_some_iff.1 g).1 (by simp)]; exact g, ho.stay sA (fun _ _ h => by cases h), hid⟩, h.st.trans sA, h.lo⟩
  obtain ⟨H', z1, z2⟩ := loop38o (H0 := H) 8 0 HA (by omega) hLA
  refine ⟨H', ?_, z2⟩
  subst hHA
  have e8 : (setA S).toList.length = 8 := setL_len S
  exact f38_F_0 (x6 := setA S) (setL_cell S) (by rw [e8]; exact arr_all gA (setL_len S)) z1
theorem cList (S : Nat → Bool) (prot : Nat) (H : AHeap) :
    ∃ x H', callInf cfg 26 [.agg (setA S)] prot H = some (x, H') ∧ OwnE H' 3 x (lst S 512).length (il (nl (lst S 512))) H.length ∧ Stay none H H' := by
  obtain ⟨HA, hHA⟩ : ∃ HA, HA = H ++ [AObj.cells (setL S) 46 (setL S).length .var] := ⟨_, rfl⟩
  obtain ⟨HB, hHB⟩ : ∃ HB, HB = HA ++ [vo [.slice none 0 0] 24] := ⟨_, rfl⟩
  have sA : Stay none H HA := by rw [hHA]; exact Stay.app none H _
  have sB : Stay none HA HB := by rw [hHB]; exact Stay.app none HA _
  have lA : HA.length = H.length + 1 := by rw [hHA]; simp
  have gA : HA[H.length]? = some (.cells (setL S) 46 8 .var) := by rw [hHA, append_get.1, setL_len]
  have gA2 : HB[H.length]? = some (.cells (setL S) 46 8 .var) := by rw [sB.2 _ (by omega) (by simp)]; exact gA
  have gB : HB[HA.length]? = some (.cells [.slice none 0 0] 24 1 .var) := by rw [hHB]; exact append_get.1
  have hL : LV H HB HA.length [] := ⟨⟨_, none, gB, ⟨rfl, rfl, .inl rfl⟩, fun id e => by cases e⟩, sA.trans sB, by omega⟩
  obtain ⟨H1, z1, z2⟩ := c38e (S := S) hL
  obtain ⟨x, o, g, ho, hid⟩ := z2.v
  obtain ⟨a, c, rfl⟩ := ho.len
  obtain ⟨x', H', y1, y2, y3⟩ := gcE (H := H) (.inl ⟨o, ho, fun id e => (hid id e).1⟩) (by simp [il, nl, plain0]) (ps := []) rfl
  refine ⟨x', H', ?_, y2, y3⟩
  have e8 : (setA S).toList.length = 8 := setL_len S
  subst hHB; subst hHA
  exact f26_F_0 (x4 := setA S) _ _ (setL_cell S) (by rw [e8]; exact arr_all gA2 (setL_len S)) z1 (one_get g) (by rw [pfin_eq, if_neg (by simp [a26])]; exact y1)
end Go.Proofs.YtkemihfaohkoeaaDoor.Am11d
set_option linter.unusedVariables false
open Go Go.Proofs.YtkemihfaohkoeaaDoor.Am
namespace Go.Proofs.YtkemihfaohkoeaaDoor.Am11d
end Go.Proofs.YtkemihfaohkoeaaDoor.Am11d
namespace Go.Proofs.YtkemihfaohkoeaaDoor.Am11d
open Go Go.Proofs.YtkemihfaohkoeaaDoor.Am
/-- Lists leave room for two more. -/
def Short8 (G : List (List Int)) : Prop := G.length * 24 + 48 ≤ 140737488355328 ∧ ∀ l ∈ G, l.length * 8 + 16 ≤ 140737488355328
theorem Short8.short {G : List (List Int)} (h : Short8 G) : Short G := fun l hl => by have := h.2 l hl; omega
def wrapI (n : Nat) (x : Int) : Int := (x.tmod n + n).tmod n
/-- A graph out of any lists. -/
def wit (G : List (List Int)) : List (List Int) := (G.take 512).map fun l => l.map (wrapI (min 512 G.length))
end Go.Proofs.YtkemihfaohkoeaaDoor.Am11d
set_option linter.unusedVariables false
open Go Go.Proofs.YtkemihfaohkoeaaDoor.Am
namespace Go.Proofs.YtkemihfaohkoeaaDoor.Am11d
theorem f11_F_0 {x0 : Int} {H : AHeap} {prot : Nat}  : callInf cfg 11 [.int .i64 x0] prot H = some (Value.int .i64 x0, H) :=
  fn_of2 a11 [] (Eq.refl ((Value.int .i64 x0, H) : Value × AHeap)) (by kernel_rfl) rfl
end Go.Proofs.YtkemihfaohkoeaaDoor.Am11d
namespace Go.Proofs.YtkemihfaohkoeaaDoor.Am11d
open Go Go.Proofs.YtkemihfaohkoeaaDoor.Am
theorem cKnows (prot : Nat) (H : AHeap) : callInf cfg 14 [] prot H = some (.bool true, H) := by
  refine callInf_body ?_
  unfold callWith
  have h : cfg.code 14 = some a14 := rfl
  rw [h]
  rfl
/-! ### Numbers of components -/
def Mu (G : List (List Int)) (u v : Nat) : Prop := Rch G u v ∧ Rch G v u
theorem Mu.symm {G : List (List Int)} {u v : Nat} (h : Mu G u v) : Mu G v u := ⟨h.2, h.1⟩
theorem Mu.trans {G : List (List Int)} {u v w : Nat} (h : Mu G u v) (k : Mu G v w) : Mu G u w := ⟨h.1.trans k.1, k.2.trans h.2⟩
theorem mu_Mu {G : List (List Int)} {u v : Nat} : mu G u v = true ↔ Mu G u v := mu_iff
/-- Numbers rise by one at most. -/
def pr : List Nat → Nat → Option Nat
  | [], m => some m
  | x :: l, m => if x ≤ m then pr l (max m (x + 1)) else none
theorem pr_snoc {x n : Nat} (hx : x ≤ n) : ∀ (l : List Nat) (m : Nat), pr l m = some n → pr (l ++ [x]) m = some (max n (x + 1))
  | [], m, h => by
    simp only [pr, Option.some.injEq] at h
    subst h
    simp [pr, hx]
  | y :: l, m, h => by
    rw [List.cons_append, pr]
    rw [pr] at h
    split at h
    · rename_i hy
      rw [if_pos hy]
      exact pr_snoc hx l _ h
    · cases h
structure NI (G : List (List Int)) (v : Nat) (out : List Nat) (n : Nat) : Prop where
  l : out.length = v
  b : ∀ i, i < v → out.getD i 0 < n
  e : ∀ u w, u < v → w < v → (out.getD u 0 = out.getD w 0 ↔ u = w ∨ Mu G u w)
  p : pr out 0 = some n
theorem getD_snoc {out : List Nat} {x i : Nat} : (out ++ [x]).getD i 0 = if i = out.length then x else out.getD i 0 := by
  by_cases h : i < out.length
  · rw [if_neg (by omega), List.getD_eq_getElem?_getD, List.getElem?_append_left h, ← List.getD_eq_getElem?_getD]
  · by_cases h2 : i = out.length
    · subst h2; simp [List.getD_eq_getElem?_getD]
    · rw [if_neg h2, List.getD_eq_getElem?_getD, List.getD_eq_getElem?_getD, List.getElem?_eq_none (by simp; omega), List.getElem?_eq_none (by omega)]
theorem numR_ok {G : List (List Int)} : ∀ (d v : Nat) (out : List Nat) (n : Nat), NI G v out n → NI G (v + d) (numR G d v out n).1 (numR G d v out n).2
  | 0, v, out, n, h => h
  | d + 1, v, out, n, h => by
    rw [numR, show v + (d + 1) = v + 1 + d by omega]
    cases hf : findM (mu G v) v 0 with
    | some u =>
      obtain ⟨_, hu, hm⟩ := findM_some hf
      have hmu := mu_Mu.1 hm
      have hul : u < v := by omega
      refine numR_ok d (v + 1) _ n ⟨by simp [h.l], fun i hi => ?_, fun a c ha hc => ?_, ?_⟩
      · rw [getD_snoc, h.l]
        split
        · exact h.b u hul
        · exact h.b i (by omega)
      · have new : ∀ w, w < v → (out.getD w 0 = out.getD u 0 ↔ Mu G w v) := fun w hw => by
          rw [h.e w u hw hul]
          constructor
          · rintro (rfl | h1)
            · exact hmu.symm
            · exact h1.trans hmu.symm
          · intro h1
            by_cases e : w = u
            · exact .inl e
            · exact .inr (h1.trans hmu)
        rw [getD_snoc, getD_snoc, h.l]
        by_cases e1 : a = v
        · by_cases e2 : c = v
          · rw [if_pos e1, if_pos e2]; simp [e1, e2]
          · rw [if_pos e1, if_neg e2]
            have := new c (by omega)
            subst e1
            constructor
            · intro h1; exact .inr (this.1 h1.symm).symm
            · rintro (h1 | h1)
              · exact absurd h1.symm e2
              · exact (this.2 h1.symm).symm
        · by_cases e2 : c = v
          · rw [if_neg e1, if_pos e2]
            have := new a (by omega)
            subst e2
            constructor
            · intro h1; exact .inr (this.1 h1)
            · rintro (h1 | h1)
              · exact absurd h1 e1
              · exact this.2 h1
          · rw [if_neg e1, if_neg e2]
            exact h.e a c (by omega) (by omega)
      · have hb := h.b u hul
        have := pr_snoc (Nat.le_of_lt hb) out 0 h.p
        rw [Nat.max_eq_left (by omega)] at this
        exact this
    | none =>
      have hno : ∀ w, w < v → ¬ Mu G v w := fun w hw hm => by
        have := findM_none hf w (Nat.zero_le _) (by omega)
        rw [mu_Mu.2 hm] at this
        cases this
      refine numR_ok d (v + 1) _ (n + 1) ⟨by simp [h.l], fun i hi => ?_, fun a c ha hc => ?_, ?_⟩
      · rw [getD_snoc, h.l]
        split
        · omega
        · have := h.b i (by omega); omega
      · rw [getD_snoc, getD_snoc, h.l]
        by_cases e1 : a = v
        · by_cases e2 : c = v
          · rw [if_pos e1, if_pos e2]; simp [e1, e2]
          · rw [if_pos e1, if_neg e2]
            have := h.b c (by omega)
            subst e1
            constructor
            · intro h1; omega
            · rintro (h1 | h1)
              · exact absurd h1.symm e2
              · exact absurd h1 (hno c (by omega))
        · by_cases e2 : c = v
          · rw [if_neg e1, if_pos e2]
            have := h.b a (by omega)
            subst e2
            constructor
            · intro h1; omega
            · rintro (h1 | h1)
              · exact absurd h1 e1
              · exact absurd h1.symm (hno a (by omega))
          · rw [if_neg e1, if_neg e2]
            exact h.e a c (by omega) (by omega)
      · have := pr_snoc (Nat.le_refl n) out 0 h.p
        rw [Nat.max_eq_right (by omega)] at this
        exact this
theorem comp_ok (G : List (List Int)) : NI G G.length (comp G).1 (comp G).2 := by
  have := numR_ok (G := G) G.length 0 [] 0 ⟨rfl, fun i h => by omega, fun u w h => by omega, rfl⟩
  rw [Nat.zero_add] at this
  exact this

/-! ### The graph that is made -/
end Go.Proofs.YtkemihfaohkoeaaDoor.Am11d
namespace Go.Proofs.YtkemihfaohkoeaaDoor.Am11d
open Go Go.Proofs.YtkemihfaohkoeaaDoor.Am
/-! Components and what they reach. -/
def RQ (G : List (List Int)) (v u : Nat) : Prop := u = v ∨ Rch G v u
theorem RQ.trans {G : List (List Int)} {a b c : Nat} (h : RQ G a b) (k : RQ G b c) : RQ G a c := by
  rcases h with rfl | h
  · exact k
  · rcases k with rfl | k
    · exact .inr h
    · exact .inr (h.trans k)
noncomputable def Lc (G : List (List Int)) (v : Nat) : Nat := (comp G).1.getD v 0
theorem pr_le : ∀ (l : List Nat) (m n : Nat), pr l m = some n → n ≤ m + l.length
  | [], m, n, h => by simp only [pr, Option.some.injEq] at h; simp; omega
  | y :: l, m, n, h => by
    rw [pr] at h
    split at h
    · have := pr_le l _ _ h; simp; omega
    · cases h
theorem comp_n (G : List (List Int)) : (comp G).2 ≤ G.length := by
  have h := comp_ok G
  have := pr_le _ _ _ h.p
  rw [h.l] at this
  omega
theorem Lc_lt {G : List (List Int)} {v : Nat} (hv : v < G.length) : Lc G v < (comp G).2 := (comp_ok G).b v hv
theorem Lc_eq {G : List (List Int)} {u v : Nat} (hu : u < G.length) (hv : v < G.length) : Lc G u = Lc G v ↔ u = v ∨ Mu G u v := (comp_ok G).e u v hu hv
theorem Lc_RQ {G : List (List Int)} {u v : Nat} (hu : u < G.length) (hv : v < G.length) (h : Lc G u = Lc G v) : RQ G u v := by
  rcases (Lc_eq hu hv).1 h with rfl | h
  · exact .inl rfl
  · exact .inr h.1
/-- A component reaches a component. -/
def Abv (G : List (List Int)) (c d : Nat) : Prop := ∃ v u, v < G.length ∧ u < G.length ∧ Lc G v = c ∧ Lc G u = d ∧ RQ G v u
theorem Abv.trans {G : List (List Int)} {c d i : Nat} (h : Abv G c d) (k : Abv G d i) : Abv G c i := by
  obtain ⟨v, u, hv, hu, h1, h2, h3⟩ := h
  obtain ⟨w, x, hw, hx, k1, k2, k3⟩ := k
  exact ⟨v, x, hv, hx, h1, k2, (h3.trans (Lc_RQ hu hw (by rw [h2, k1]))).trans k3⟩
theorem Abv.anti {G : List (List Int)} {c d : Nat} (h : Abv G c d) (k : Abv G d c) : c = d := by
  obtain ⟨v, u, hv, hu, h1, h2, h3⟩ := h
  obtain ⟨w, x, hw, hx, k1, k2, k3⟩ := k
  have h4 : RQ G u v := ((Lc_RQ hu hw (by rw [h2, k1])).trans k3).trans (Lc_RQ hx hv (by rw [k2, h1]))
  rw [← h1, ← h2]
  refine (Lc_eq hv hu).2 ?_
  rcases h3 with rfl | h3
  · exact .inl rfl
  · rcases h4 with rfl | h4
    · exact .inl rfl
    · exact .inr ⟨h3, h4⟩
noncomputable def abv (G : List (List Int)) (c d : Nat) : Bool := @decide (Abv G c d) (Classical.propDecidable _)
theorem abv_iff {G : List (List Int)} {c d : Nat} : abv G c d = true ↔ Abv G c d := by unfold abv; exact @decide_eq_true_iff _ (Classical.propDecidable _)
end Go.Proofs.YtkemihfaohkoeaaDoor.Am11d
namespace Go.Proofs.YtkemihfaohkoeaaDoor.Am
open Go
/-! Lists of sets of eight words. -/
def sets (A : Nat → Nat → Bool) (n : Nat) : List Value := (List.range n).flatMap fun c => setL (A c)
theorem sets_succ (A : Nat → Nat → Bool) (n : Nat) : sets A (n + 1) = sets A n ++ setL (A n) := by
  unfold sets
  rw [List.range_succ, List.flatMap_append]
  simp
theorem sets_len (A : Nat → Nat → Bool) : ∀ n, (sets A n).length = n * 8
  | 0 => rfl
  | n + 1 => by rw [sets_succ, List.length_append, sets_len A n, setL_len]; omega
theorem sets_plain (A : Nat → Nat → Bool) : ∀ n, (sets A n).all plain0 = true
  | 0 => rfl
  | n + 1 => by rw [sets_succ, List.all_append, sets_plain A n, setL_plain]; rfl
theorem sets_congr {A B : Nat → Nat → Bool} : ∀ n, (∀ c, c < n → ∀ i, i < 512 → A c i = B c i) → sets A n = sets B n
  | 0, _ => rfl
  | n + 1, h => by rw [sets_succ, sets_succ, sets_congr n (fun c hc => h c (by omega)), setL_congr (h n (by omega))]
theorem sets_get (A : Nat → Nat → Bool) {i : Nat} : ∀ n, i < n → ((sets A n).drop (i * 8)).take 8 = setL (A i)
  | 0, h => by omega
  | n + 1, h => by
    have hl := sets_len A n
    rw [sets_succ]
    by_cases e : i = n
    · subst e
      rw [List.drop_append_of_le_length (by omega), List.drop_of_length_le (by omega), List.nil_append, List.take_of_length_le (by rw [setL_len]; omega)]
    · rw [List.drop_append_of_le_length (by omega), List.take_append_of_le_length (by rw [List.length_drop]; omega)]
      exact sets_get A n (by omega)
theorem sets_put (A : Nat → Nat → Bool) (T : Nat → Bool) {i : Nat} : ∀ n, i < n → putList (sets A n) (i * 8 + 0) (setL T) = sets (fun c => if c = i then T else A c) n
  | 0, h => by omega
  | n + 1, h => by
    have hl := sets_len A n
    have hT := setL_len T
    rw [sets_succ, sets_succ]
    by_cases e : i = n
    · subst e
      unfold putList
      rw [if_pos rfl, List.take_append_of_le_length (by omega), List.take_of_length_le (by omega), List.drop_of_length_le (by rw [List.length_append, setL_len]; omega), List.append_nil]
      congr 1
      exact sets_congr i (fun c hc j _ => by rw [if_neg (by omega)])
    · have ih := sets_put A T n (show i < n by omega)
      rw [← ih, if_neg (by omega)]
      unfold putList
      rw [List.take_append_of_le_length (by omega), List.drop_append_of_le_length (by omega)]
      simp [List.append_assoc]
theorem repCells_snoc (z : List Value) : ∀ n, repCells z (n + 1) = repCells z n ++ z
  | 0 => by simp [repCells]
  | n + 1 => by
    show z ++ repCells z (n + 1) = (z ++ repCells z n) ++ z
    rw [repCells_snoc z n, List.append_assoc]
theorem sets_no : ∀ n, sets (fun _ => noS) n = repCells (List.replicate 8 (.int .u64 0)) n
  | 0 => by simp [sets, repCells]
  | n + 1 => by rw [sets_succ, sets_no n, setL_no, repCells_snoc]

/-- A row of one's own, it may be empty. -/
def OwnS (H : AHeap) (e s : Nat) (x : Value) (n : Nat) (cs : List Value) (b : Nat) : Prop :=
  (∃ o, Own H e s x o n cs ∧ ∀ id, o = some id → b ≤ id) ∨ (n = 0 ∧ cs = [] ∧ ∃ id, x = .slice (some ⟨id, 0, some 0⟩) 0 0 ∧ b ≤ id ∧ H[id]? = some (.cells [] e 0 .row))
theorem OwnS.rd {H : AHeap} {e s n b : Nat} {x : Value} {cs : List Value} (h : OwnS H e s x n cs b) : Rd H e s x n cs := by
  rcases h with ⟨o, h, _⟩ | ⟨rfl, rfl, id, rfl, _, h⟩
  · exact h.rd
  · exact ⟨by simp, .inr ⟨id, 0, 0, .row, 0, [], rfl, Nat.le_refl _, Nat.le_refl _, by omega, h, by simp⟩⟩
theorem OwnS.weak {H : AHeap} {e s n b c : Nat} {x : Value} {cs : List Value} (h : OwnS H e s x n cs b) (hc : c ≤ b) : OwnS H e s x n cs c := by
  rcases h with ⟨o, h, h2⟩ | ⟨a1, a2, id, a3, h1, h⟩
  · exact .inl ⟨o, h, fun id e => Nat.le_trans hc (h2 id e)⟩
  · exact .inr ⟨a1, a2, id, a3, Nat.le_trans hc h1, h⟩
theorem OwnS.stay {H H' : AHeap} {e s n b : Nat} {x : Value} {cs : List Value} (h : OwnS H e s x n cs b) (k : Stay none H H') : OwnS H' e s x n cs b := by
  rcases h with ⟨o, h, h2⟩ | ⟨rfl, rfl, id, rfl, h1, h⟩
  · exact .inl ⟨o, h.stay k (fun _ _ h => by cases h), h2⟩
  · exact .inr ⟨rfl, rfl, id, rfl, h1, by rw [k.2 id (List.getElem?_eq_some_iff.1 h).1 (by simp)]; exact h⟩
theorem gcS {H H1 : AHeap} {e s n : Nat} {x : Value} {cs : List Value} (h : OwnS H1 e s x n cs H.length) (hp : cs.all plain0 = true) {ps : List Value} (hps : ps.all plain1 = true) :
    ∃ x' H', gc H (x :: ps) H1 = (tupled (x' :: ps), H') ∧ OwnS H' e s x' n cs H.length ∧ Stay none H H' := by
  rcases h with ⟨o, h, h2⟩ | ⟨rfl, rfl, id, rfl, h1, h⟩
  · obtain ⟨x', o', H', g1, g2, g3, g4, _⟩ := gc_row h h2 hp hps
    exact ⟨x', H', g1, .inl ⟨o', g2, g4⟩, g3⟩
  · refine ⟨.slice (some ⟨H.length, 0, some 0⟩) 0 0, H ++ [.cells [] e 0 .row], ?_, .inr ⟨rfl, rfl, H.length, rfl, Nat.le_refl _, append_get.1⟩, Stay.app none H _⟩
    unfold gc
    simp only [gcHeap]
    simp only [sliceIds, sliceIds_plain ps hps, noDup, List.contains_nil, Bool.not_false, Bool.and_self, if_true, keepAll, keep1]
    rw [if_neg (by omega), h]
    simp only
    rw [if_pos ⟨rfl, by simp⟩, Option.bind_some, keepAll_plain ps _ hps]
    simp
end Go.Proofs.YtkemihfaohkoeaaDoor.Am
set_option linter.unusedVariables false
open Go Go.Proofs.YtkemihfaohkoeaaDoor.Am
namespace Go.Proofs.YtkemihfaohkoeaaDoor.Am11d
theorem f24_F_0 {x0a : Option Addr} {x0n x0c : Nat} {H : AHeap} {prot : Nat} {x10a : Option Addr} {x10n x10c : Nat} {H1 : AHeap} {x14aa : Option Addr} {x14an x14ac : Nat} {x14b : Int} {H2 : AHeap} {z6a : Option Addr} {z6n z6c : Nat} {H3 : AHeap} (rv : Value) (rH : AHeap) (h1 : callInf cfg 34 [Value.slice x0a x0n x0c] (List.length H) H = some (Value.slice x10a x10n x10c, H1)) (h2 : callInf cfg 33 [Value.slice x0a x0n x0c, Value.slice x10a x10n x10c] (List.length H) H1 = some (Value.tuple { toList := [Value.slice x14aa x14an x14ac, Value.int .i64 x14b] }, H2)) (h3 : 0 ≤ x14b) (h4 : x14b = x14b) (h5 : x14b ≤ 9223372036854775807) (h6 : (↑64 : Int) * x14b ≤ 2 ^ 48) (h7 : lpInf (lpOf cfg a24 0 prot H) ([Value.slice x0a x0n x0c, Value.slice x10a x10n x10c, Value.slice x14aa x14an x14ac, Value.slice (some ⟨List.length H2, 0, some (x14b.toNat * 8)⟩) x14b.toNat x14b.toNat, Value.int .i64 (↑x0n : Int), Value.int .i64 0], H2 ++ [AObj.cells (repCells [Value.int .u64 0, Value.int .u64 0, Value.int .u64 0, Value.int .u64 0, Value.int .u64 0, Value.int .u64 0, Value.int .u64 0, Value.int .u64 0] x14b.toNat) 46 (repCells [Value.int .u64 0, Value.int .u64 0, Value.int .u64 0, Value.int .u64 0, Value.int .u64 0, Value.int .u64 0, Value.int .u64 0, Value.int .u64 0] x14b.toNat).length OMode.row]) = some (Ex.exit 0, [Value.slice z6a z6n z6c], H3)) (h8 : pfin a24 H [Value.slice z6a z6n z6c] H3 = (rv, rH)) : callInf cfg 24 [.slice x0a x0n x0c] prot H = some (rv, rH) :=
  fn_of2 a24 [.r (.slice x10a x10n x10c) H1, .r (.tuple #[.slice x14aa x14an x14ac, .int .i64 x14b]) H2, .e, .e, .lo (.exit 0, [.slice z6a z6n z6c], H3)] (ai h1 (ai h2 (ai h3 (ai h4 (ai h5 (ai h6 (ai h7 h8))))))) (by kernel_rfl) rfl
theorem f24_L0_0 {x0a : Option Addr} {x0n x0c : Nat} {x3a : Option Addr} {x3n x3c : Nat} {x4a : Option Addr} {x4n x4c : Nat} {x6a : Option Addr} {x6n x6c : Nat} {x20 x21 : Int} {H0 : AHeap} {prot : Nat} {H : AHeap} {x27p x27o x27l : Nat} {x28 : Int} {x32p x32o x32l : Nat} {x33 : Int} {x34p x34o x34l : Nat} {x35 : Array Value} {x38p x38o x38l : Nat} {x39 : Int} {x40 : Array Value} {x41p x41o x41l : Nat} {H2 : AHeap} {z0a : Option Addr} {z0n z0c : Nat} {z3a : Option Addr} {z3n z3c : Nat} {z4a : Option Addr} {z4n z4c : Nat} {z6a : Option Addr} {z6n z6c : Nat} {z20 z21 : Int} {H3 : AHeap} (h1 : x21 < x20) (h2 : aindexAddr cfg.P 24 (Value.slice x4a x4n x4c) (Value.int .i64 x21) = some (Value.pointer (some ⟨x27p, x27o, some x27l⟩))) (h3 : getCells H x27p x27l x27o 1 = some [Value.int .i64 x28]) (h4 : aindexAddr cfg.P 24 (Value.slice x4a x4n x4c) (Value.int .i64 x21) = some (Value.pointer (some ⟨x32p, x32o, some x32l⟩))) (h5 : getCells H x32p x32l x32o 1 = some [Value.int .i64 x33]) (h6 : aindexAddr cfg.P 53 (Value.slice x6a x6n x6c) (Value.int .i64 x33) = some (Value.pointer (some ⟨x34p, x34o, some x34l⟩))) (h7 : getCells H x34p x34l x34o 8 = some x35.toList) (h8 : aindexAddr cfg.P 24 (Value.slice x4a x4n x4c) (Value.int .i64 x21) = some (Value.pointer (some ⟨x38p, x38o, some x38l⟩))) (h9 : getCells H x38p x38l x38o 1 = some [Value.int .i64 x39]) (h10 : callInf cfg 35 [Value.agg x35, Value.int .i64 x39] (List.length H0) H = some (Value.agg x40, H)) (h11 : aindexAddr cfg.P 53 (Value.slice x6a x6n x6c) (Value.int .i64 x28) = some (Value.pointer (some ⟨x41p, x41o, some x41l⟩))) (h12 : x40.toList.length = 8) (h13 : setCells H (List.length H0) x41p x41l x41o x40.toList = some H2) (h14 : lpInf (lpOf cfg a24 1 prot H0) ([Value.slice x0a x0n x0c, Value.slice x3a x3n x3c, Value.slice x4a x4n x4c, Value.slice x6a x6n x6c, Value.int .i64 x21, Value.int .i64 x20, Value.int .i64 x21, Value.int .i64 (↑x0n : Int), Value.int .i64 0], H2) = some (Ex.exit 2, [Value.slice z0a z0n z0c, Value.slice z3a z3n z3c, Value.slice z4a z4n z4c, Value.slice z6a z6n z6c, Value.int .i64 z20, Value.int .i64 z21], H3)) (h15 : Fit .i64 (z21 + 1)) : lpOf cfg a24 0 prot H0 ([.slice x0a x0n x0c, .slice x3a x3n x3c, .slice x4a x4n x4c, .slice x6a x6n x6c, .int .i64 x20, .int .i64 x21], H) = some (Sum.inl ([Value.slice z0a z0n z0c, Value.slice z3a z3n z3c, Value.slice z4a z4n z4c, Value.slice z6a z6n z6c, Value.int .i64 z20, Value.int .i64 (z21 + 1)], H3)) :=
  lp_of2 [.e, .b true, .v (.pointer (some ⟨x27p, x27o, some x27l⟩)), .v (.int .i64 x28), .v (.pointer (some ⟨x32p, x32o, some x32l⟩)), .v (.int .i64 x33), .v (.pointer (some ⟨x34p, x34o, some x34l⟩)), .v (.agg x35), .v (.pointer (some ⟨x38p, x38o, some x38l⟩)), .v (.int .i64 x39), .v (.agg x40), .v (.pointer (some ⟨x41p, x41o, some x41l⟩)), .h H2, .e, .lo (.exit 2, [.slice z0a z0n z0c, .slice z3a z3n z3c, .slice z4a z4n z4c, .slice z6a z6n z6c, .int .i64 z20, .int .i64 z21], H3), .e] (ai (decide_eq_true h1) (ai h2 (ai h3 (ai h4 (ai h5 (ai h6 (ai h7 (ai h8 (ai h9 (ai h10 (ai h11 (ai h12 (ai h13 (ai h14 (ai h15 (Eq.refl (Sum.inl ([Value.slice z0a z0n z0c, Value.slice z3a z3n z3c, Value.slice z4a z4n z4c, Value.slice z6a z6n z6c, Value.int .i64 z20, Value.int .i64 (z21 + 1)], H3) : LS ⊕ LO))))))))))))))))) (by kernel_rfl)
theorem f24_L0_1 {x0a : Option Addr} {x0n x0c : Nat} {x3a : Option Addr} {x3n x3c : Nat} {x4a : Option Addr} {x4n x4c : Nat} {x6a : Option Addr} {x6n x6c : Nat} {x20 x21 : Int} {H0 : AHeap} {prot : Nat} {H : AHeap} (h1 : ¬(x21 < x20)) : lpOf cfg a24 0 prot H0 ([.slice x0a x0n x0c, .slice x3a x3n x3c, .slice x4a x4n x4c, .slice x6a x6n x6c, .int .i64 x20, .int .i64 x21], H) = some (Sum.inr (Ex.exit 0, [Value.slice x6a x6n x6c], H)) :=
  lp_of2 [.e, .b false] (ai (decide_eq_false h1) (Eq.refl (Sum.inr (Ex.exit 0, [Value.slice x6a x6n x6c], H) : LS ⊕ LO))) (by kernel_rfl)
theorem f24_L1_0 {x0a : Option Addr} {x0n x0c : Nat} {x3a : Option Addr} {x3n x3c : Nat} {x4a : Option Addr} {x4n x4c : Nat} {x6a : Option Addr} {x6n x6c : Nat} {x7 x20 x21 x43 x44 : Int} {H0 : AHeap} {prot : Nat} {H : AHeap} {x49p x49o x49l x50p x50o x50l : Nat} {x54 : Bool} {x58p x58o x58l : Nat} {x59 : Int} {x63p x63o x63l : Nat} {x64 : Int} {x65p x65o x65l : Nat} {x66 : Array Value} {x69p x69o x69l : Nat} {x70 : Int} {x71 : Array Value} {x72p x72o x72l : Nat} {H2 : AHeap} (h1 : x44 < x43) (h2 : aindexAddr cfg.P 64 (Value.slice x3a x3n x3c) (Value.int .i64 x7) = some (Value.pointer (some ⟨x49p, x49o, some x49l⟩))) (h3 : getCells H x49p x49l x49o 1 = some [Value.pointer (some ⟨x50p, x50o, some x50l⟩)]) (h4 : 0 ≤ x44) (h5 : x44 < (↑512 : Int)) (h6 : getCells H x50p x50l (x50o + x44.toNat * 1) 1 = some [Value.bool x54]) (h7 : x54 = true) (h8 : aindexAddr cfg.P 24 (Value.slice x4a x4n x4c) (Value.int .i64 x7) = some (Value.pointer (some ⟨x58p, x58o, some x58l⟩))) (h9 : getCells H x58p x58l x58o 1 = some [Value.int .i64 x59]) (h10 : aindexAddr cfg.P 24 (Value.slice x4a x4n x4c) (Value.int .i64 x7) = some (Value.pointer (some ⟨x63p, x63o, some x63l⟩))) (h11 : getCells H x63p x63l x63o 1 = some [Value.int .i64 x64]) (h12 : aindexAddr cfg.P 53 (Value.slice x6a x6n x6c) (Value.int .i64 x64) = some (Value.pointer (some ⟨x65p, x65o, some x65l⟩))) (h13 : getCells H x65p x65l x65o 8 = some x66.toList) (h14 : aindexAddr cfg.P 24 (Value.slice x4a x4n x4c) (Value.int .i64 x44) = some (Value.pointer (some ⟨x69p, x69o, some x69l⟩))) (h15 : getCells H x69p x69l x69o 1 = some [Value.int .i64 x70]) (h16 : callInf cfg 35 [Value.agg x66, Value.int .i64 x70] (List.length H0) H = some (Value.agg x71, H)) (h17 : aindexAddr cfg.P 53 (Value.slice x6a x6n x6c) (Value.int .i64 x59) = some (Value.pointer (some ⟨x72p, x72o, some x72l⟩))) (h18 : x71.toList.length = 8) (h19 : setCells H (List.length H0) x72p x72l x72o x71.toList = some H2) (h20 : Fit .i64 (x44 + 1)) : lpOf cfg a24 1 prot H0 ([.slice x0a x0n x0c, .slice x3a x3n x3c, .slice x4a x4n x4c, .slice x6a x6n x6c, .int .i64 x7, .int .i64 x20, .int .i64 x21, .int .i64 x43, .int .i64 x44], H) = some (Sum.inl ([Value.slice x0a x0n x0c, Value.slice x3a x3n x3c, Value.slice x4a x4n x4c, Value.slice x6a x6n x6c, Value.int .i64 x7, Value.int .i64 x20, Value.int .i64 x21, Value.int .i64 x43, Value.int .i64 (x44 + 1)], H2)) :=
  lp_of2 [.e, .b true, .v (.pointer (some ⟨x49p, x49o, some x49l⟩)), .v (.pointer (some ⟨x50p, x50o, some x50l⟩)), .e, .v (.bool x54), .b true, .v (.pointer (some ⟨x58p, x58o, some x58l⟩)), .v (.int .i64 x59), .v (.pointer (some ⟨x63p, x63o, some x63l⟩)), .v (.int .i64 x64), .v (.pointer (some ⟨x65p, x65o, some x65l⟩)), .v (.agg x66), .v (.pointer (some ⟨x69p, x69o, some x69l⟩)), .v (.int .i64 x70), .v (.agg x71), .v (.pointer (some ⟨x72p, x72o, some x72l⟩)), .h H2, .e] (ai (decide_eq_true h1) (ai h2 (ai h3 (ai h4 (ai h5 (ai h6 (ai h7 (ai h8 (ai h9 (ai h10 (ai h11 (ai h12 (ai h13 (ai h14 (ai h15 (ai h16 (ai h17 (ai h18 (ai h19 (ai h20 (Eq.refl (Sum.inl ([Value.slice x0a x0n x0c, Value.slice x3a x3n x3c, Value.slice x4a x4n x4c, Value.slice x6a x6n x6c, Value.int .i64 x7, Value.int .i64 x20, Value.int .i64 x21, Value.int .i64 x43, Value.int .i64 (x44 + 1)], H2) : LS ⊕ LO)))))))))))))))))))))) (by kernel_rfl)
theorem f24_L1_1 {x0a : Option Addr} {x0n x0c : Nat} {x3a : Option Addr} {x3n x3c : Nat} {x4a : Option Addr} {x4n x4c : Nat} {x6a : Option Addr} {x6n x6c : Nat} {x7 x20 x21 x43 x44 : Int} {H0 : AHeap} {prot : Nat} {H : AHeap} {x49p x49o x49l x50p x50o x50l : Nat} {x54 : Bool} (h1 : x44 < x43) (h2 : aindexAddr cfg.P 64 (Value.slice x3a x3n x3c) (Value.int .i64 x7) = some (Value.pointer (some ⟨x49p, x49o, some x49l⟩))) (h3 : getCells H x49p x49l x49o 1 = some [Value.pointer (some ⟨x50p, x50o, some x50l⟩)]) (h4 : 0 ≤ x44) (h5 : x44 < (↑512 : Int)) (h6 : getCells H x50p x50l (x50o + x44.toNat * 1) 1 = some [Value.bool x54]) (h7 : x54 = false) (h8 : Fit .i64 (x44 + 1)) : lpOf cfg a24 1 prot H0 ([.slice x0a x0n x0c, .slice x3a x3n x3c, .slice x4a x4n x4c, .slice x6a x6n x6c, .int .i64 x7, .int .i64 x20, .int .i64 x21, .int .i64 x43, .int .i64 x44], H) = some (Sum.inl ([Value.slice x0a x0n x0c, Value.slice x3a x3n x3c, Value.slice x4a x4n x4c, Value.slice x6a x6n x6c, Value.int .i64 x7, Value.int .i64 x20, Value.int .i64 x21, Value.int .i64 x43, Value.int .i64 (x44 + 1)], H)) :=
  lp_of2 [.e, .b true, .v (.pointer (some ⟨x49p, x49o, some x49l⟩)), .v (.pointer (some ⟨x50p, x50o, some x50l⟩)), .e, .v (.bool x54), .b false, .e] (ai (decide_eq_true h1) (ai h2 (ai h3 (ai h4 (ai h5 (ai h6 (ai h7 (ai h8 (Eq.refl (Sum.inl ([Value.slice x0a x0n x0c, Value.slice x3a x3n x3c, Value.slice x4a x4n x4c, Value.slice x6a x6n x6c, Value.int .i64 x7, Value.int .i64 x20, Value.int .i64 x21, Value.int .i64 x43, Value.int .i64 (x44 + 1)], H) : LS ⊕ LO)))))))))) (by kernel_rfl)
theorem f24_L1_2 {x0a : Option Addr} {x0n x0c : Nat} {x3a : Option Addr} {x3n x3c : Nat} {x4a : Option Addr} {x4n x4c : Nat} {x6a : Option Addr} {x6n x6c : Nat} {x7 x20 x21 x43 x44 : Int} {H0 : AHeap} {prot : Nat} {H : AHeap} (h1 : ¬(x44 < x43)) : lpOf cfg a24 1 prot H0 ([.slice x0a x0n x0c, .slice x3a x3n x3c, .slice x4a x4n x4c, .slice x6a x6n x6c, .int .i64 x7, .int .i64 x20, .int .i64 x21, .int .i64 x43, .int .i64 x44], H) = some (Sum.inr (Ex.exit 2, [Value.slice x0a x0n x0c, Value.slice x3a x3n x3c, Value.slice x4a x4n x4c, Value.slice x6a x6n x6c, Value.int .i64 x20, Value.int .i64 x21], H)) :=
  lp_of2 [.e, .b false] (ai (decide_eq_false h1) (Eq.refl (Sum.inr (Ex.exit 2, [Value.slice x0a x0n x0c, Value.slice x3a x3n x3c, Value.slice x4a x4n x4c, Value.slice x6a x6n x6c, Value.int .i64 x20, Value.int .i64 x21], H) : LS ⊕ LO))) (by kernel_rfl)
end Go.Proofs.YtkemihfaohkoeaaDoor.Am11d
namespace Go.Proofs.YtkemihfaohkoeaaDoor.Am11d
open Go Go.Proofs.YtkemihfaohkoeaaDoor.Am
theorem T46 : ElemT cfg.P 53 46 8 64 := ⟨by kernel_rfl, by kernel_rfl, by kernel_rfl, ⟨.agg #[.int .u64 0, .int .u64 0, .int .u64 0, .int .u64 0, .int .u64 0, .int .u64 0, .int .u64 0, .int .u64 0], by kernel_rfl, rfl⟩, by kernel_rfl, by omega, by omega⟩
theorem comp_get {G : List (List Int)} {v : Nat} (hv : v < G.length) : (il (nl (comp G).1))[v]? = some (.int .i64 ((Lc G v : Nat) : Int)) := by
  have hl := (comp_ok G).l
  unfold il nl Lc
  rw [List.getElem?_map, List.getElem?_map, List.getElem?_eq_getElem (by omega), List.getD_eq_getElem?_getD, List.getElem?_eq_getElem (by omega)]
  rfl
/-- One set is read; one is written. -/
theorem sets_at {H : AHeap} {x : Value} {o n : Nat} {A : Nat → Nat → Bool} (h : Own H 46 8 x (some o) n (sets A n)) {k : Nat} (hk : k < n) :
    aindexAddr cfg.P 53 x (.int .i64 (k : Nat)) = some (.pointer (some ⟨o, k * 8, some (sets A n).length⟩)) ∧ getCells H o (sets A n).length (k * 8) 8 = some (setA (A k)).toList := by
  obtain ⟨id, e, a, b⟩ := own_atS T46 h hk
  cases e
  have := b 0 8 (Nat.le_refl _)
  rw [Nat.add_zero, sets_get A n hk] at this
  exact ⟨a, this⟩
theorem sets_set {H : AHeap} {x : Value} {o n : Nat} {A : Nat → Nat → Bool} (h : Own H 46 8 x (some o) n (sets A n)) {k : Nat} (hk : k < n) (T : Nat → Bool) {prot : Nat} (hp : prot ≤ o) :
    ∃ H', setCells H prot o (sets A n).length (k * 8) (setA T).toList = some H' ∧ Own H' 46 8 x (some o) n (sets (fun c => if c = k then T else A c) n) ∧ Stay (some o) H H' := by
  obtain ⟨id, H', e, a, b, c, d, _⟩ := own_setS T46 h hk (j := 0) (vs := setL T) (by rw [setL_len]; omega) (setL_cell T) (prot := prot) (fun id e => by cases e; exact hp)
  cases e
  rw [sets_put A T n hk] at c
  exact ⟨H', b, c, d⟩

theorem loop40i {G : List (List Int)} (hG : Good G) {G0 : AHeap} {x0 x3 x4 x6 : Value} (hx0 : ∃ a c, x0 = .slice a G.length c) (hw : WL G G0 x3) (hx3 : ∃ a c, x3 = .slice a G.length c) (h4 : Rd G0 3 1 x4 G.length (il (nl (comp G).1))) {o : Nat} (ho : G0.length ≤ o) {H0 : AHeap} (hp : H0.length ≤ o) {prot : Nat} {p q : Int} {v : Nat} (hv : v < G.length) {B : Nat → Nat → Prop} : ∀ (d i : Nat) (A : Nat → Nat → Bool) (H : AHeap), i + d = G.length → Stay none G0 H → Own H 46 8 x6 (some o) (comp G).2 (sets A (comp G).2) →
    (∀ c e, A c e = true ↔ B c e ∨ (c = Lc G v ∧ ∃ u, u < i ∧ Rch G v u ∧ e = Lc G u)) →
    ∃ A' H', lpInf (lpOf cfg a24 1 prot H0) ([x0, x3, x4, x6, .int .i64 v, .int .i64 p, .int .i64 q, .int .i64 G.length, .int .i64 i], H) = some (.exit 2, [x0, x3, x4, x6, .int .i64 p, .int .i64 q], H') ∧ Own H' 46 8 x6 (some o) (comp G).2 (sets A' (comp G).2) ∧
      (∀ c e, A' c e = true ↔ B c e ∨ (c = Lc G v ∧ ∃ u, u < G.length ∧ Rch G v u ∧ e = Lc G u)) ∧ Stay (some o) H H'
  | 0, i, A, H, hi, hst, hx, hA => by
    have he : i = G.length := by omega
    subst he
    refine ⟨A, H, ?_, hx, hA, Stay.refl _ _⟩
    obtain ⟨_, _, rfl⟩ := hx0
    obtain ⟨_, _, rfl⟩ := hx3
    obtain ⟨_, _, rfl⟩ := h4.len
    obtain ⟨_, _, rfl⟩ := hx.len
    exact lp_last (f24_L1_2 (by omega))
  | d + 1, i, A, H, hi, hst, hx, hA => by
    have h512 := hG.1
    have hil : i < G.length := by omega
    have hn := comp_n G
    obtain ⟨id, L, p1, b, a1, a2, a3, a4⟩ := (hw.stay hst).at hv (show i < 512 by omega)
    have fi : Fit .i64 ((i : Int) + 1) := fit64 (by omega) (by omega)
    have hk := Lc_lt hv
    have hk2 := Lc_lt hil
    cases hbv : b with
    | true =>
      rw [hbv] at a3 a4
      obtain ⟨i2, L2, b1, b2⟩ := rd_at T34 (h4.stay hst) (comp_get hv)
      obtain ⟨i3, L3, c1, c2⟩ := rd_at T34 (h4.stay hst) (comp_get hil)
      obtain ⟨d1, d2⟩ := sets_at hx hk
      have h38 := c38 (S := A (Lc G v)) (show Lc G i < 512 by omega) H0.length H
      obtain ⟨H2, e1, e2, e3⟩ := sets_set hx hk (addS (A (Lc G v)) (Lc G i)) hp
      obtain ⟨A', H', z1, z2, z3, z4⟩ := loop40i hG hx0 hw hx3 h4 ho hp (prot := prot) (p := p) (q := q) hv (B := B) d (i + 1) _ H2 (by omega) (hst.over e3 (fun id e => by cases e; exact ho)) e2 (fun c e => by
        have hr := a4.1 rfl
        by_cases hc : c = Lc G v
        · subst hc
          rw [if_pos rfl]
          unfold addS
          rw [Bool.or_eq_true, decide_eq_true_eq, hA]
          constructor
          · rintro ((h | ⟨_, u, h1, h2, h3⟩) | h)
            · exact .inl h
            · exact .inr ⟨rfl, u, by omega, h2, h3⟩
            · exact .inr ⟨rfl, i, by omega, hr, h⟩
          · rintro (h | ⟨_, u, h1, h2, h3⟩)
            · exact .inl (.inl h)
            · by_cases e0 : u = i
              · subst e0; exact .inr h3
              · exact .inl (.inr ⟨rfl, u, by omega, h2, h3⟩)
        · rw [if_neg hc, hA]
          simp [hc])
      refine ⟨A', H', ?_, z2, z3, e3.trans z4⟩
      obtain ⟨_, _, rfl⟩ := hx0
      obtain ⟨_, _, rfl⟩ := hx3
      obtain ⟨_, _, rfl⟩ := h4.len
      obtain ⟨_, _, rfl⟩ := hx.len
      exact lp_next (f24_L1_0 (x66 := setA (A (Lc G v))) (x71 := setA (addS (A (Lc G v)) (Lc G i))) (by omega) a1 a2 (by omega) (by omega) a3 rfl b1 b2 b1 b2 d1 d2 c1 c2 h38 d1 (setL_len _) e1 fi) z1
    | false =>
      rw [hbv] at a3 a4
      obtain ⟨A', H', z1, z2, z3, z4⟩ := loop40i hG hx0 hw hx3 h4 ho hp (prot := prot) (p := p) (q := q) hv (B := B) d (i + 1) A H (by omega) hst hx (fun c e => by
        have hr : ¬ Rch G v i := fun h => by have := a4.2 h; cases this
        rw [hA]
        constructor
        · rintro (h | ⟨h0, u, h1, h2, h3⟩)
          · exact .inl h
          · exact .inr ⟨h0, u, by omega, h2, h3⟩
        · rintro (h | ⟨h0, u, h1, h2, h3⟩)
          · exact .inl h
          · by_cases e0 : u = i
            · subst e0; exact absurd h2 hr
            · exact .inr ⟨h0, u, by omega, h2, h3⟩)
      refine ⟨A', H', ?_, z2, z3, z4⟩
      obtain ⟨_, _, rfl⟩ := hx0
      obtain ⟨_, _, rfl⟩ := hx3
      obtain ⟨_, _, rfl⟩ := h4.len
      obtain ⟨_, _, rfl⟩ := hx.len
      exact lp_next (f24_L1_1 (by omega) a1 a2 (by omega) (by omega) a3 rfl fi) z1

/-- What the first vertices' components reach. -/
def AbvTo (G : List (List Int)) (v c d : Nat) : Prop := ∃ w u, w < v ∧ u < G.length ∧ Lc G w = c ∧ Lc G u = d ∧ RQ G w u
theorem loop40o {G : List (List Int)} (hG : Good G) {G0 : AHeap} {x0 x3 x4 x6 : Value} (hx0 : ∃ a c, x0 = .slice a G.length c) (hw : WL G G0 x3) (hx3 : ∃ a c, x3 = .slice a G.length c) (h4 : Rd G0 3 1 x4 G.length (il (nl (comp G).1))) {o : Nat} (ho : G0.length ≤ o) {H0 : AHeap} (hp : H0.length ≤ o) {prot : Nat} : ∀ (d v : Nat) (A : Nat → Nat → Bool) (H : AHeap), v + d = G.length → Stay none G0 H → Own H 46 8 x6 (some o) (comp G).2 (sets A (comp G).2) → (∀ c e, A c e = true ↔ AbvTo G v c e) →
    ∃ A' H', lpInf (lpOf cfg a24 0 prot H0) ([x0, x3, x4, x6, .int .i64 G.length, .int .i64 v], H) = some (.exit 0, [x6], H') ∧ Own H' 46 8 x6 (some o) (comp G).2 (sets A' (comp G).2) ∧ (∀ c e, A' c e = true ↔ AbvTo G G.length c e) ∧ Stay (some o) H H'
  | 0, v, A, H, hi, hst, hx, hA => by
    have he : v = G.length := by omega
    subst he
    refine ⟨A, H, ?_, hx, hA, Stay.refl _ _⟩
    obtain ⟨_, _, rfl⟩ := hx0
    obtain ⟨_, _, rfl⟩ := hx3
    obtain ⟨_, _, rfl⟩ := h4.len
    obtain ⟨_, _, rfl⟩ := hx.len
    exact lp_last (f24_L0_1 (by omega))
  | d + 1, v, A, H, hi, hst, hx, hA => by
    have h512 := hG.1
    have hv : v < G.length := by omega
    have hn := comp_n G
    have hk := Lc_lt hv
    obtain ⟨i2, L2, b1, b2⟩ := rd_at T34 (h4.stay hst) (comp_get hv)
    obtain ⟨d1, d2⟩ := sets_at hx hk
    have h38 := c38 (S := A (Lc G v)) (show Lc G v < 512 by omega) H0.length H
    obtain ⟨H2, e1, e2, e3⟩ := sets_set hx hk (addS (A (Lc G v)) (Lc G v)) hp
    have hst2 := hst.over e3 (fun id e => by cases e; exact ho)
    obtain ⟨A1, H3, y1, y2, y3, y4⟩ := loop40i hG hx0 hw hx3 h4 ho hp (prot := prot) (p := (G.length : Int)) (q := (v : Int)) hv (B := fun c e => AbvTo G v c e ∨ (c = Lc G v ∧ e = Lc G v)) G.length 0 _ H2 (by omega) hst2 e2 (fun c e => by
      by_cases hc : c = Lc G v
      · subst hc
        rw [if_pos rfl]
        unfold addS
        rw [Bool.or_eq_true, decide_eq_true_eq, hA]
        simp
      · rw [if_neg hc, hA]
        simp [hc])
    obtain ⟨A', H', z1, z2, z3, z4⟩ := loop40o hG hx0 hw hx3 h4 ho hp (prot := prot) d (v + 1) A1 H3 (by omega) (hst2.over y4 (fun id e => by cases e; exact ho)) y2 (fun c e => by
      rw [y3]
      constructor
      · rintro ((⟨w, u, h1, h2, h3, h4, h5⟩ | ⟨rfl, rfl⟩) | ⟨rfl, u, h1, h2, rfl⟩)
        · exact ⟨w, u, by omega, h2, h3, h4, h5⟩
        · exact ⟨v, v, by omega, hv, rfl, rfl, .inl rfl⟩
        · exact ⟨v, u, by omega, h1, rfl, rfl, .inr h2⟩
      · rintro ⟨w, u, h1, h2, h3, h4, h5⟩
        by_cases e0 : w = v
        · subst e0
          rcases h5 with rfl | h5
          · exact .inl (.inr ⟨h3.symm, h4.symm⟩)
          · exact .inr ⟨h3.symm, u, h2, h5, h4.symm⟩
        · exact .inl (.inl ⟨w, u, by omega, h2, h3, h4, h5⟩))
    refine ⟨A', H', ?_, z2, z3, (e3.trans y4).trans z4⟩
    obtain ⟨_, _, rfl⟩ := hx0
    obtain ⟨_, _, rfl⟩ := hx3
    obtain ⟨_, _, rfl⟩ := h4.len
    obtain ⟨_, _, rfl⟩ := hx.len
    exact lp_next (f24_L0_0 (x35 := setA (A (Lc G v))) (x40 := setA (addS (A (Lc G v)) (Lc G v))) (by omega) b1 b2 b1 b2 d1 d2 b1 b2 h38 d1 (setL_len _) e1 y1 (fit64 (by omega) (by omega))) z1

theorem c40 {G : List (List Int)} (hG : Good G) {vG : Value} (prot : Nat) {H : AHeap} (hg : Gr H vG G) : ∃ x' H', callInf cfg 24 [vG] prot H = some (x', H') ∧ OwnS H' 46 8 x' (comp G).2 (sets (abv G) (comp G).2) H.length ∧ Stay none H H' := by
  have h5 := hG.1
  have hn := comp_n G
  obtain ⟨a, c, H1, w1, w2, w3⟩ := c37 hG H.length hg
  obtain ⟨y, H2, n1, n2, n3, n4⟩ := c36 hG H.length (hg.stay w3) w2 ⟨a, c, rfl⟩
  obtain ⟨z8, hz8⟩ : ∃ z8 : List Value, z8 = [.int .u64 0, .int .u64 0, .int .u64 0, .int .u64 0, .int .u64 0, .int .u64 0, .int .u64 0, .int .u64 0] := ⟨_, rfl⟩
  have hz : z8 = List.replicate 8 (.int .u64 0) := by rw [hz8]; rfl
  obtain ⟨H3, hH3⟩ : ∃ H3, H3 = H2 ++ [AObj.cells (repCells z8 (comp G).2) 46 (repCells z8 (comp G).2).length .row] := ⟨_, rfl⟩
  have s3 : Stay none H2 H3 := by rw [hH3]; exact Stay.app none H2 _
  have hlen : H.length ≤ H2.length := Nat.le_trans w3.1 n4.1
  obtain ⟨ax, cx, hye⟩ := n2.rd.len
  have key : ∃ x6 H4, lpInf (lpOf cfg a24 0 prot H) ([vG, .slice a G.length c, y, .slice (some ⟨H2.length, 0, some ((comp G).2 * 8)⟩) (comp G).2 (comp G).2, .int .i64 G.length, .int .i64 0], H3) = some (.exit 0, [x6], H4) ∧ OwnS H4 46 8 x6 (comp G).2 (sets (abv G) (comp G).2) H.length := by
    by_cases h0 : 0 < (comp G).2
    · have m : Own H3 46 8 (.slice (some ⟨H2.length, 0, some ((comp G).2 * 8)⟩) (comp G).2 (comp G).2) (some H2.length) (comp G).2 (sets (fun _ => noS) (comp G).2) := by
        rw [sets_no, ← hz, hH3]
        have hl : (repCells z8 (comp G).2).length = (comp G).2 * 8 := by rw [hz, ← sets_no, sets_len]
        exact own_new hl h0 hl.symm rfl
      obtain ⟨A', H4, z1, z2, z3, z4⟩ := loop40o hG hg.len (w2.stay n4) ⟨a, c, rfl⟩ n2.rd (Nat.le_refl _) (H0 := H) hlen (prot := prot) G.length 0 _ H3 (by omega) s3 m (fun c e => by
        constructor
        · intro h; cases h
        · rintro ⟨w, u, h1, _⟩; omega)
      refine ⟨_, H4, z1, .inl ⟨some H2.length, ?_, fun id e => by cases e; exact hlen⟩⟩
      rw [sets_congr (A := abv G) (B := A') _ (fun c _ i _ => by rw [Bool.eq_iff_iff, abv_iff, z3]; rfl)]
      exact z2
    · have hn0 : (comp G).2 = 0 := by omega
      have hG0 : G = [] := List.eq_nil_of_length_eq_zero (by
        rcases Nat.eq_zero_or_pos G.length with h | h
        · exact h
        · have := Lc_lt h; omega)
      rw [hn0] at hH3 ⊢
      subst hG0
      obtain ⟨aG, cG, rfl⟩ := hg.len
      subst hye
      refine ⟨_, H3, lp_last (f24_L0_1 (by decide)), .inr ⟨rfl, rfl, H2.length, rfl, hlen, ?_⟩⟩
      rw [hH3]
      exact append_get.1
  obtain ⟨x6, H4, z1, z2⟩ := key
  obtain ⟨x', H', g1, g2, g3⟩ := gcS z2 (sets_plain _ _) (ps := []) rfl
  refine ⟨x', H', ?_, g2, g3⟩
  obtain ⟨aG, cG, rfl⟩ := hg.len
  subst hye
  obtain ⟨_, _, rfl⟩ := z2.rd.len
  subst hH3; subst hz8
  exact f24_F_0 _ _ w1 n1 (by omega) rfl (by omega) (by omega) z1 (by rw [pfin_eq, if_neg (by simp [a24])]; exact g1)

end Go.Proofs.YtkemihfaohkoeaaDoor.Am11d
namespace Go.Proofs.YtkemihfaohkoeaaDoor.Am
open Go
/-! Heights in a finite order. -/
/-- A height: the longest chain above. -/
structure Ht (A : Nat → Nat → Bool) (n : Nat) (h : Nat → Nat) : Prop where
  ge : ∀ c d, c < n → d < n → d ≠ c → A c d = true → h d + 1 ≤ h c
  ex : ∀ c, c < n → h c = 0 ∨ ∃ d, d < n ∧ d ≠ c ∧ A c d = true ∧ h c = h d + 1
  lt : ∀ c, c < n → h c < n
theorem countP_lt {p q : Nat → Bool} : ∀ {l : List Nat}, (∀ x, p x = true → q x = true) → (∃ d, d ∈ l ∧ q d = true ∧ p d = false) → l.countP p < l.countP q
  | [], _, ⟨d, h, _⟩ => by simp at h
  | a :: l, hs, ⟨d, hm, h1, h2⟩ => by
    have hmono : l.countP p ≤ l.countP q := List.countP_mono_left fun x _ h => hs x h
    rw [List.countP_cons, List.countP_cons]
    rcases List.mem_cons.1 hm with e | e
    · subst e
      rw [h1, h2]
      simp; omega
    · have := countP_lt (l := l) hs ⟨d, e, h1, h2⟩
      cases ha : p a with
      | false => cases q a <;> simp <;> omega
      | true => rw [hs a ha]; simp; omega
def upP (A : Nat → Nat → Bool) (c : Nat) : Nat → Bool := fun d => decide (d ≠ c) && A c d
def mxl (f : Nat → Nat) (p : Nat → Bool) : Nat → Nat
  | 0 => 0
  | n + 1 => if p n then max (mxl f p n) (f n + 1) else mxl f p n
theorem mxl_ge {f : Nat → Nat} {p : Nat → Bool} {d : Nat} (hp : p d = true) : ∀ {n : Nat}, d < n → f d + 1 ≤ mxl f p n
  | n + 1, h => by
    rw [mxl]
    by_cases e : d = n
    · subst e; rw [if_pos hp]; omega
    · have := mxl_ge (f := f) hp (n := n) (by omega)
      split <;> omega
theorem mxl_ex {f : Nat → Nat} {p : Nat → Bool} : ∀ {n : Nat}, mxl f p n = 0 ∨ ∃ d, d < n ∧ p d = true ∧ mxl f p n = f d + 1
  | 0 => .inl rfl
  | n + 1 => by
    rw [mxl]
    split
    · rename_i hp
      rcases Nat.le_total (f n + 1) (mxl f p n) with h | h
      · rw [Nat.max_eq_left h]
        rcases mxl_ex (f := f) (p := p) (n := n) with h1 | ⟨d, h1, h2, h3⟩
        · exact .inl h1
        · exact .inr ⟨d, by omega, h2, h3⟩
      · rw [Nat.max_eq_right h]
        exact .inr ⟨n, by omega, hp, rfl⟩
    · rcases mxl_ex (f := f) (p := p) (n := n) with h1 | ⟨d, h1, h2, h3⟩
      · exact .inl h1
      · exact .inr ⟨d, by omega, h2, h3⟩
theorem mxl_congr {f g : Nat → Nat} {p : Nat → Bool} : ∀ {n : Nat}, (∀ d, d < n → p d = true → f d = g d) → mxl f p n = mxl g p n
  | 0, _ => rfl
  | n + 1, h => by
    rw [mxl, mxl, mxl_congr (n := n) (fun d hd hp => h d (by omega) hp)]
    split
    · rename_i hp; rw [h n (by omega) hp]
    · rfl
def hgt (A : Nat → Nat → Bool) (n : Nat) : Nat → Nat → Nat
  | 0, _ => 0
  | k + 1, c => mxl (hgt A n k) (upP A c) n
theorem hgt_ok {A : Nat → Nat → Bool} {n : Nat} (tr : ∀ c d e, A c d = true → A d e = true → A c e = true) (an : ∀ c d, A c d = true → A d c = true → c = d) : Ht A n (hgt A n n) := by
  have cl : ∀ c d, d < n → upP A c d = true → (List.range n).countP (upP A d) < (List.range n).countP (upP A c) := fun c d hd h => by
    simp only [upP, Bool.and_eq_true, decide_eq_true_eq] at h
    refine countP_lt (fun e he => ?_) ⟨d, List.mem_range.2 hd, by simp [upP, h.1, h.2], by simp [upP]⟩
    simp only [upP, Bool.and_eq_true, decide_eq_true_eq] at he ⊢
    refine ⟨fun e0 => ?_, tr c d e h.2 he.2⟩
    subst e0
    exact h.1 (an _ _ he.2 h.2)
  have st : ∀ N c k, (List.range n).countP (upP A c) ≤ N → N ≤ k → hgt A n k c = hgt A n N c := by
    intro N
    induction N with
    | zero =>
      intro c k h1 h2
      cases k with
      | zero => rfl
      | succ k =>
        rw [hgt, hgt]
        rcases mxl_ex (f := hgt A n k) (p := upP A c) (n := n) with h | ⟨d, hd, hp, _⟩
        · exact h
        · have := cl c d hd hp; omega
    | succ N ih =>
      intro c k h1 h2
      cases k with
      | zero => omega
      | succ k =>
        rw [hgt, hgt]
        refine mxl_congr fun d hd hp => ?_
        have := cl c d hd hp
        exact ih d k (by omega) (by omega)
  have cn : ∀ c, (List.range n).countP (upP A c) ≤ n := fun c => by
    have := List.countP_le_length (p := upP A c) (l := List.range n)
    rw [List.length_range] at this; exact this
  have fx : ∀ c, hgt A n n c = mxl (hgt A n n) (upP A c) n := fun c => by
    have := st n c (n + 1) (cn c) (by omega)
    rw [← this, hgt]
  have ub : ∀ k c, hgt A n k c ≤ (List.range n).countP (upP A c) := by
    intro k
    induction k with
    | zero => intro c; exact Nat.zero_le _
    | succ k ih =>
      intro c
      rw [hgt]
      rcases mxl_ex (f := hgt A n k) (p := upP A c) (n := n) with h | ⟨d, hd, hp, h⟩
      · omega
      · have := cl c d hd hp
        have := ih d
        omega
  refine ⟨fun c d hc hd hne ha => ?_, fun c hc => ?_, fun c hc => ?_⟩
  · rw [fx c]
    exact mxl_ge (f := hgt A n n) (by simp [upP, hne, ha]) hd
  · rcases mxl_ex (f := hgt A n n) (p := upP A c) (n := n) with h | ⟨d, hd, hp, h⟩
    · exact .inl (by rw [fx c]; exact h)
    · simp only [upP, Bool.and_eq_true, decide_eq_true_eq] at hp
      exact .inr ⟨d, hd, hp.1, hp.2, by rw [fx c]; exact h⟩
  · have h1 := ub n c
    have h2 : (List.range n).countP (upP A c) < (List.range n).countP (fun _ => true) := countP_lt (fun _ _ => rfl) ⟨c, List.mem_range.2 hc, rfl, by simp [upP]⟩
    have h3 := List.countP_le_length (p := fun _ => true) (l := List.range n)
    rw [List.length_range] at h3
    omega
def topH (h : Nat → Nat) : Nat → Nat
  | 0 => 0
  | n + 1 => max (topH h n) (h n)
theorem topH_le {h : Nat → Nat} {c : Nat} : ∀ {n : Nat}, c < n → h c ≤ topH h n
  | n + 1, hc => by
    rw [topH]
    by_cases e : c = n
    · subst e; omega
    · have := topH_le (h := h) (c := c) (n := n) (by omega); omega
theorem topH_ex {h : Nat → Nat} : ∀ {n : Nat}, topH h n = 0 ∨ ∃ c, c < n ∧ topH h n = h c
  | 0 => .inl rfl
  | n + 1 => by
    rw [topH]
    rcases Nat.le_total (h n) (topH h n) with e | e
    · rw [Nat.max_eq_left e]
      rcases topH_ex (h := h) (n := n) with h1 | ⟨c, h1, h2⟩
      · exact .inl h1
      · exact .inr ⟨c, by omega, h2⟩
    · rw [Nat.max_eq_right e]; exact .inr ⟨n, by omega, rfl⟩
theorem topH_is {h : Nat → Nat} {n b : Nat} (h1 : ∀ c, c < n → h c ≤ b) (h2 : b = 0 ∨ ∃ c, c < n ∧ h c = b) : b = topH h n := by
  rcases h2 with h2 | ⟨c, h2, h3⟩
  · rcases topH_ex (h := h) (n := n) with e | ⟨c, e1, e2⟩
    · omega
    · have := h1 c e1; omega
  · have := topH_le (h := h) h2
    rcases topH_ex (h := h) (n := n) with e | ⟨d, e1, e2⟩
    · omega
    · have := h1 d e1; omega
theorem topH_congr {h k : Nat → Nat} : ∀ {n : Nat}, (∀ c, c < n → h c = k c) → topH h n = topH k n
  | 0, _ => rfl
  | n + 1, e => by rw [topH, topH, topH_congr (n := n) (fun c hc => e c (by omega)), e n (by omega)]
theorem Ht.top_lt {A : Nat → Nat → Bool} {n : Nat} {h : Nat → Nat} (a : Ht A n h) (hn : 0 < n) : topH h n < n := by
  rcases topH_ex (h := h) (n := n) with e | ⟨c, e1, e2⟩
  · omega
  · have := a.lt c e1; omega
end Go.Proofs.YtkemihfaohkoeaaDoor.Am
set_option linter.unusedVariables false
open Go Go.Proofs.YtkemihfaohkoeaaDoor.Am
namespace Go.Proofs.YtkemihfaohkoeaaDoor.Am11d
theorem f25_F_0 {x0 : Int} {x1p x1o x1l x2p x2o x2l x3p x3o x3l : Nat} {H : AHeap} {prot : Nat} {x9a : Option Addr} {x9n x9c x11p x11o x11l : Nat} {x12 : Int} {x14a : Option Addr} {x14n x14c x16p x16o x16l : Nat} {x17 : Array Value} {x18a : Option Addr} {x18n x18c : Nat} {H1 : AHeap} {z0 : Int} {z1p z1o z1l : Nat} {z6 : Int} {H2 : AHeap} {x33a : Option Addr} {x33n x33c x37p x37o x37l : Nat} {H3 : AHeap} {x38a : Option Addr} {x38n x38c x40p x40o x40l : Nat} {x41 : Int} (h1 : getCells H x1p x1l x1o 1 = some [Value.slice x9a x9n x9c]) (h2 : aindexAddr cfg.P 24 (Value.slice x9a x9n x9c) (Value.int .i64 x0) = some (Value.pointer (some ⟨x11p, x11o, some x11l⟩))) (h3 : getCells H x11p x11l x11o 1 = some [Value.int .i64 x12]) (h4 : (x12 == 0) = true) (h5 : getCells H x2p x2l x2o 1 = some [Value.slice x14a x14n x14c]) (h6 : aindexAddr cfg.P 53 (Value.slice x14a x14n x14c) (Value.int .i64 x0) = some (Value.pointer (some ⟨x16p, x16o, some x16l⟩))) (h7 : getCells H x16p x16l x16o 8 = some x17.toList) (h8 : callInf cfg 26 [Value.agg x17] prot H = some (Value.slice x18a x18n x18c, H1)) (h9 : lpInf (lpOf cfg a25 0 prot H) ([Value.int .i64 x0, Value.pointer (some ⟨x1p, x1o, some x1l⟩), Value.pointer (some ⟨x3p, x3o, some x3l⟩), Value.int .i64 0, Value.slice x18a x18n x18c, Value.int .i64 (↑x18n : Int), Value.int .i64 0], H1) = some (Ex.exit 0, [Value.int .i64 z0, Value.pointer (some ⟨z1p, z1o, some z1l⟩), Value.int .i64 z6], H2)) (h10 : getCells H2 z1p z1l z1o 1 = some [Value.slice x33a x33n x33c]) (h11 : Fit .i64 (z6 + 1)) (h12 : aindexAddr cfg.P 24 (Value.slice x33a x33n x33c) (Value.int .i64 z0) = some (Value.pointer (some ⟨x37p, x37o, some x37l⟩))) (h13 : [Value.int .i64 (z6 + 1)].length = 1) (h14 : setCells H2 prot x37p x37l x37o [Value.int .i64 (z6 + 1)] = some H3) (h15 : getCells H3 z1p z1l z1o 1 = some [Value.slice x38a x38n x38c]) (h16 : aindexAddr cfg.P 24 (Value.slice x38a x38n x38c) (Value.int .i64 z0) = some (Value.pointer (some ⟨x40p, x40o, some x40l⟩))) (h17 : getCells H3 x40p x40l x40o 1 = some [Value.int .i64 x41]) : callInf cfg 25 [.int .i64 x0, .pointer (some ⟨x1p, x1o, some x1l⟩), .pointer (some ⟨x2p, x2o, some x2l⟩), .pointer (some ⟨x3p, x3o, some x3l⟩)] prot H = some (Value.int .i64 x41, H3) :=
  fn_of2 a25 [.v (.slice x9a x9n x9c), .v (.pointer (some ⟨x11p, x11o, some x11l⟩)), .v (.int .i64 x12), .e, .b true, .v (.slice x14a x14n x14c), .v (.pointer (some ⟨x16p, x16o, some x16l⟩)), .v (.agg x17), .r (.slice x18a x18n x18c) H1, .e, .lo (.exit 0, [.int .i64 z0, .pointer (some ⟨z1p, z1o, some z1l⟩), .int .i64 z6], H2), .v (.slice x33a x33n x33c), .e, .v (.pointer (some ⟨x37p, x37o, some x37l⟩)), .h H3, .v (.slice x38a x38n x38c), .v (.pointer (some ⟨x40p, x40o, some x40l⟩)), .v (.int .i64 x41)] (ai h1 (ai h2 (ai h3 (ai h4 (ai h5 (ai h6 (ai h7 (ai h8 (ai h9 (ai h10 (ai h11 (ai h12 (ai h13 (ai h14 (ai h15 (ai h16 (ai h17 (Eq.refl ((Value.int .i64 x41, H3) : Value × AHeap))))))))))))))))))) (by kernel_rfl) rfl
theorem f25_F_1 {x0 : Int} {x1p x1o x1l x2p x2o x2l x3p x3o x3l : Nat} {H : AHeap} {prot : Nat} {x9a : Option Addr} {x9n x9c x11p x11o x11l : Nat} {x12 : Int} {x38a : Option Addr} {x38n x38c x40p x40o x40l : Nat} {x41 : Int} (h1 : getCells H x1p x1l x1o 1 = some [Value.slice x9a x9n x9c]) (h2 : aindexAddr cfg.P 24 (Value.slice x9a x9n x9c) (Value.int .i64 x0) = some (Value.pointer (some ⟨x11p, x11o, some x11l⟩))) (h3 : getCells H x11p x11l x11o 1 = some [Value.int .i64 x12]) (h4 : (x12 == 0) = false) (h5 : getCells H x1p x1l x1o 1 = some [Value.slice x38a x38n x38c]) (h6 : aindexAddr cfg.P 24 (Value.slice x38a x38n x38c) (Value.int .i64 x0) = some (Value.pointer (some ⟨x40p, x40o, some x40l⟩))) (h7 : getCells H x40p x40l x40o 1 = some [Value.int .i64 x41]) : callInf cfg 25 [.int .i64 x0, .pointer (some ⟨x1p, x1o, some x1l⟩), .pointer (some ⟨x2p, x2o, some x2l⟩), .pointer (some ⟨x3p, x3o, some x3l⟩)] prot H = some (Value.int .i64 x41, H) :=
  fn_of2 a25 [.v (.slice x9a x9n x9c), .v (.pointer (some ⟨x11p, x11o, some x11l⟩)), .v (.int .i64 x12), .e, .b false, .v (.slice x38a x38n x38c), .v (.pointer (some ⟨x40p, x40o, some x40l⟩)), .v (.int .i64 x41)] (ai h1 (ai h2 (ai h3 (ai h4 (ai h5 (ai h6 (ai h7 (Eq.refl ((Value.int .i64 x41, H) : Value × AHeap))))))))) (by kernel_rfl) rfl
theorem f25_L0_0 {x0 : Int} {x1p x1o x1l x3p x3o x3l : Nat} {x6 : Int} {x18a : Option Addr} {x18n x18c : Nat} {x19 x20 : Int} {H0 : AHeap} {prot : Nat} {H : AHeap} {x22p x22o x22l : Nat} {x23 : Int} {x28ap x28ao x28al x28bp x28bo x28bl x28cp x28co x28cl : Nat} {x30 : Int} {H2 : AHeap} (h1 : x20 < x19) (h2 : aindexAddr cfg.P 24 (Value.slice x18a x18n x18c) (Value.int .i64 x20) = some (Value.pointer (some ⟨x22p, x22o, some x22l⟩))) (h3 : getCells H x22p x22l x22o 1 = some [Value.int .i64 x23]) (h4 : (x23 != x0) = true) (h5 : getCells H x3p x3l x3o 1 = some [Value.func (Fn.func 25) { toList := [] } { toList := [Value.pointer (some ⟨x28ap, x28ao, some x28al⟩), Value.pointer (some ⟨x28bp, x28bo, some x28bl⟩), Value.pointer (some ⟨x28cp, x28co, some x28cl⟩)] }]) (h6 : callInf cfg 25 [Value.int .i64 x23, Value.pointer (some ⟨x28ap, x28ao, some x28al⟩), Value.pointer (some ⟨x28bp, x28bo, some x28bl⟩), Value.pointer (some ⟨x28cp, x28co, some x28cl⟩)] prot H = some (Value.int .i64 x30, H2)) (h7 : Fit .i64 (x20 + 1)) : lpOf cfg a25 0 prot H0 ([.int .i64 x0, .pointer (some ⟨x1p, x1o, some x1l⟩), .pointer (some ⟨x3p, x3o, some x3l⟩), .int .i64 x6, .slice x18a x18n x18c, .int .i64 x19, .int .i64 x20], H) = some (Sum.inl ([Value.int .i64 x0, Value.pointer (some ⟨x1p, x1o, some x1l⟩), Value.pointer (some ⟨x3p, x3o, some x3l⟩), Value.int .i64 (if x30 > x6 then x30 else x6), Value.slice x18a x18n x18c, Value.int .i64 x19, Value.int .i64 (x20 + 1)], H2)) :=
  lp_of2 [.e, .b true, .v (.pointer (some ⟨x22p, x22o, some x22l⟩)), .v (.int .i64 x23), .e, .b true, .v (.func (.func 25) #[] #[.pointer (some ⟨x28ap, x28ao, some x28al⟩), .pointer (some ⟨x28bp, x28bo, some x28bl⟩), .pointer (some ⟨x28cp, x28co, some x28cl⟩)]), .r (.int .i64 x30) H2, .e, .e] (ai (decide_eq_true h1) (ai h2 (ai h3 (ai h4 (ai h5 (ai h6 (ai h7 (Eq.refl (Sum.inl ([Value.int .i64 x0, Value.pointer (some ⟨x1p, x1o, some x1l⟩), Value.pointer (some ⟨x3p, x3o, some x3l⟩), Value.int .i64 (if x30 > x6 then x30 else x6), Value.slice x18a x18n x18c, Value.int .i64 x19, Value.int .i64 (x20 + 1)], H2) : LS ⊕ LO))))))))) (by kernel_rfl)
theorem f25_L0_1 {x0 : Int} {x1p x1o x1l x3p x3o x3l : Nat} {x6 : Int} {x18a : Option Addr} {x18n x18c : Nat} {x19 x20 : Int} {H0 : AHeap} {prot : Nat} {H : AHeap} {x22p x22o x22l : Nat} {x23 : Int} (h1 : x20 < x19) (h2 : aindexAddr cfg.P 24 (Value.slice x18a x18n x18c) (Value.int .i64 x20) = some (Value.pointer (some ⟨x22p, x22o, some x22l⟩))) (h3 : getCells H x22p x22l x22o 1 = some [Value.int .i64 x23]) (h4 : (x23 != x0) = false) (h5 : Fit .i64 (x20 + 1)) : lpOf cfg a25 0 prot H0 ([.int .i64 x0, .pointer (some ⟨x1p, x1o, some x1l⟩), .pointer (some ⟨x3p, x3o, some x3l⟩), .int .i64 x6, .slice x18a x18n x18c, .int .i64 x19, .int .i64 x20], H) = some (Sum.inl ([Value.int .i64 x0, Value.pointer (some ⟨x1p, x1o, some x1l⟩), Value.pointer (some ⟨x3p, x3o, some x3l⟩), Value.int .i64 x6, Value.slice x18a x18n x18c, Value.int .i64 x19, Value.int .i64 (x20 + 1)], H)) :=
  lp_of2 [.e, .b true, .v (.pointer (some ⟨x22p, x22o, some x22l⟩)), .v (.int .i64 x23), .e, .b false, .e] (ai (decide_eq_true h1) (ai h2 (ai h3 (ai h4 (ai h5 (Eq.refl (Sum.inl ([Value.int .i64 x0, Value.pointer (some ⟨x1p, x1o, some x1l⟩), Value.pointer (some ⟨x3p, x3o, some x3l⟩), Value.int .i64 x6, Value.slice x18a x18n x18c, Value.int .i64 x19, Value.int .i64 (x20 + 1)], H) : LS ⊕ LO))))))) (by kernel_rfl)
theorem f25_L0_2 {x0 : Int} {x1p x1o x1l x3p x3o x3l : Nat} {x6 : Int} {x18a : Option Addr} {x18n x18c : Nat} {x19 x20 : Int} {H0 : AHeap} {prot : Nat} {H : AHeap} (h1 : ¬(x20 < x19)) : lpOf cfg a25 0 prot H0 ([.int .i64 x0, .pointer (some ⟨x1p, x1o, some x1l⟩), .pointer (some ⟨x3p, x3o, some x3l⟩), .int .i64 x6, .slice x18a x18n x18c, .int .i64 x19, .int .i64 x20], H) = some (Sum.inr (Ex.exit 0, [Value.int .i64 x0, Value.pointer (some ⟨x1p, x1o, some x1l⟩), Value.int .i64 x6], H)) :=
  lp_of2 [.e, .b false] (ai (decide_eq_false h1) (Eq.refl (Sum.inr (Ex.exit 0, [Value.int .i64 x0, Value.pointer (some ⟨x1p, x1o, some x1l⟩), Value.int .i64 x6], H) : LS ⊕ LO))) (by kernel_rfl)
end Go.Proofs.YtkemihfaohkoeaaDoor.Am11d
set_option linter.unusedVariables false
open Go Go.Proofs.YtkemihfaohkoeaaDoor.Am
namespace Go.Proofs.YtkemihfaohkoeaaDoor.Am11d
theorem f7_F_0 {x0a : Option Addr} {x0n x0c : Nat} {H : AHeap} {prot : Nat} {x11 : Int} (h1 : callInf cfg 22 [Value.slice x0a x0n x0c] (List.length H) H = some (Value.int .i64 x11, H)) (h2 : (x11 != 0) = true) : callInf cfg 7 [.slice x0a x0n x0c] prot H = some (Value.tuple { toList := [Value.int .i64 0, Value.int .i64 x11] }, H) :=
  fn_of2 a7 [.v (.int .i64 x11), .e, .b true] (ai h1 (ai h2 (Eq.refl ((Value.tuple { toList := [Value.int .i64 0, Value.int .i64 x11] }, H) : Value × AHeap)))) (by kernel_rfl) rfl
theorem f7_F_1 {x0a : Option Addr} {x0n x0c : Nat} {H : AHeap} {prot : Nat} {x11 : Int} {x16a : Option Addr} {x16n x16c : Nat} {H1 H2 : AHeap} {x17a : Option Addr} {x17n x17c : Nat} {H3 H4 : AHeap} {x21a : Option Addr} {x21n x21c : Nat} {z8 : Int} {H5 : AHeap} (h1 : callInf cfg 22 [Value.slice x0a x0n x0c] (List.length H) H = some (Value.int .i64 x11, H)) (h2 : (x11 != 0) = false) (h3 : callInf cfg 24 [Value.slice x0a x0n x0c] (List.length H) H = some (Value.slice x16a x16n x16c, H1)) (h4 : [Value.slice x16a x16n x16c].length = 1) (h5 : setCells (H1 ++ [vo [Value.slice none 0 0] 53]) (List.length H) (List.length H1) [Value.slice none 0 0].length 0 [Value.slice x16a x16n x16c] = some H2) (h6 : getCells H2 (List.length H1) [Value.slice none 0 0].length 0 1 = some [Value.slice x17a x17n x17c]) (h7 : 0 ≤ (↑x17n : Int)) (h8 : (↑x17n : Int) = (↑x17n : Int)) (h9 : (↑x17n : Int) ≤ 9223372036854775807) (h10 : (↑8 : Int) * (↑x17n : Int) ≤ 2 ^ 48) (h11 : [Value.slice (some ⟨List.length H2, 0, some ((↑x17n : Int).toNat * 1)⟩) (↑x17n : Int).toNat (↑x17n : Int).toNat].length = 1) (h12 : setCells (H2 ++ [AObj.cells (repCells [Value.int .i64 0] (↑x17n : Int).toNat) 3 (repCells [Value.int .i64 0] (↑x17n : Int).toNat).length OMode.row] ++ [vo [Value.slice none 0 0] 24]) (List.length H) (List.length (H2 ++ [AObj.cells (repCells [Value.int .i64 0] (↑x17n : Int).toNat) 3 (repCells [Value.int .i64 0] (↑x17n : Int).toNat).length OMode.row])) [Value.slice none 0 0].length 0 [Value.slice (some ⟨List.length H2, 0, some ((↑x17n : Int).toNat * 1)⟩) (↑x17n : Int).toNat (↑x17n : Int).toNat] = some H3) (h13 : [Value.func (Fn.func 25) { toList := [] } { toList := [Value.pointer (some ⟨List.length (H2 ++ [AObj.cells (repCells [Value.int .i64 0] (↑x17n : Int).toNat) 3 (repCells [Value.int .i64 0] (↑x17n : Int).toNat).length OMode.row]), 0, some [Value.slice none 0 0].length⟩), Value.pointer (some ⟨List.length H1, 0, some [Value.slice none 0 0].length⟩), Value.pointer (some ⟨List.length H3, 0, some [Value.nilFunc].length⟩)] }].length = 1) (h14 : setCells (H3 ++ [vo [Value.nilFunc] 55]) (List.length H) (List.length H3) [Value.nilFunc].length 0 [Value.func (Fn.func 25) { toList := [] } { toList := [Value.pointer (some ⟨List.length (H2 ++ [AObj.cells (repCells [Value.int .i64 0] (↑x17n : Int).toNat) 3 (repCells [Value.int .i64 0] (↑x17n : Int).toNat).length OMode.row]), 0, some [Value.slice none 0 0].length⟩), Value.pointer (some ⟨List.length H1, 0, some [Value.slice none 0 0].length⟩), Value.pointer (some ⟨List.length H3, 0, some [Value.nilFunc].length⟩)] }] = some H4) (h15 : getCells H4 (List.length H1) [Value.slice none 0 0].length 0 1 = some [Value.slice x21a x21n x21c]) (h16 : lpInf (lpOf cfg a7 0 prot H) ([Value.pointer (some ⟨List.length H3, 0, some [Value.nilFunc].length⟩), Value.int .i64 1, Value.int .i64 (↑x21n : Int), Value.int .i64 0], H4) = some (Ex.exit 0, [Value.int .i64 z8], H5)) (h17 : Fit .i64 (z8 - 1)) : callInf cfg 7 [.slice x0a x0n x0c] prot H = some (Value.tuple { toList := [Value.int .i64 (z8 - 1), Value.int .i64 0] }, H) :=
  fn_of2 a7 [.v (.int .i64 x11), .e, .b false, .r (.slice x16a x16n x16c) H1, .e, .h H2, .v (.slice x17a x17n x17c), .e, .e, .e, .h H3, .e, .h H4, .v (.slice x21a x21n x21c), .e, .lo (.exit 0, [.int .i64 z8], H5), .e] (ai h1 (ai h2 (ai h3 (ai h4 (ai h5 (ai h6 (ai h7 (ai h8 (ai h9 (ai h10 (ai h11 (ai h12 (ai h13 (ai h14 (ai h15 (ai h16 (ai h17 (Eq.refl ((Value.tuple { toList := [Value.int .i64 (z8 - 1), Value.int .i64 0] }, H) : Value × AHeap))))))))))))))))))) (by kernel_rfl) rfl
theorem f7_L0_0 {x7p x7o x7l : Nat} {x8 x22 x23 : Int} {H0 : AHeap} {prot : Nat} {H : AHeap} {x27ap x27ao x27al x27bp x27bo x27bl x27cp x27co x27cl : Nat} {x29 : Int} {H2 : AHeap} (h1 : x23 < x22) (h2 : getCells H x7p x7l x7o 1 = some [Value.func (Fn.func 25) { toList := [] } { toList := [Value.pointer (some ⟨x27ap, x27ao, some x27al⟩), Value.pointer (some ⟨x27bp, x27bo, some x27bl⟩), Value.pointer (some ⟨x27cp, x27co, some x27cl⟩)] }]) (h3 : callInf cfg 25 [Value.int .i64 x23, Value.pointer (some ⟨x27ap, x27ao, some x27al⟩), Value.pointer (some ⟨x27bp, x27bo, some x27bl⟩), Value.pointer (some ⟨x27cp, x27co, some x27cl⟩)] (List.length H0) H = some (Value.int .i64 x29, H2)) (h4 : Fit .i64 (x23 + 1)) : lpOf cfg a7 0 prot H0 ([.pointer (some ⟨x7p, x7o, some x7l⟩), .int .i64 x8, .int .i64 x22, .int .i64 x23], H) = some (Sum.inl ([Value.pointer (some ⟨x7p, x7o, some x7l⟩), Value.int .i64 (if x29 > x8 then x29 else x8), Value.int .i64 x22, Value.int .i64 (x23 + 1)], H2)) :=
  lp_of2 [.e, .b true, .v (.func (.func 25) #[] #[.pointer (some ⟨x27ap, x27ao, some x27al⟩), .pointer (some ⟨x27bp, x27bo, some x27bl⟩), .pointer (some ⟨x27cp, x27co, some x27cl⟩)]), .r (.int .i64 x29) H2, .e, .e] (ai (decide_eq_true h1) (ai h2 (ai h3 (ai h4 (Eq.refl (Sum.inl ([Value.pointer (some ⟨x7p, x7o, some x7l⟩), Value.int .i64 (if x29 > x8 then x29 else x8), Value.int .i64 x22, Value.int .i64 (x23 + 1)], H2) : LS ⊕ LO)))))) (by kernel_rfl)
theorem f7_L0_1 {x7p x7o x7l : Nat} {x8 x22 x23 : Int} {H0 : AHeap} {prot : Nat} {H : AHeap} (h1 : ¬(x23 < x22)) : lpOf cfg a7 0 prot H0 ([.pointer (some ⟨x7p, x7o, some x7l⟩), .int .i64 x8, .int .i64 x22, .int .i64 x23], H) = some (Sum.inr (Ex.exit 0, [Value.int .i64 x8], H)) :=
  lp_of2 [.e, .b false] (ai (decide_eq_false h1) (Eq.refl (Sum.inr (Ex.exit 0, [Value.int .i64 x8], H) : LS ⊕ LO))) (by kernel_rfl)
end Go.Proofs.YtkemihfaohkoeaaDoor.Am11d
namespace Go.Proofs.YtkemihfaohkoeaaDoor.Am11d
open Go Go.Proofs.YtkemihfaohkoeaaDoor.Am
/-! Depth: the memo and the walk. -/
abbrev fDp (p1 p2 p3 : Nat) : Value := .func (.func 25) #[] #[.pointer (some ⟨p1, 0, some 1⟩), .pointer (some ⟨p2, 0, some 1⟩), .pointer (some ⟨p3, 0, some 1⟩)]
theorem _root_.Go.Proofs.YtkemihfaohkoeaaDoor.Am.OwnE.ne {H : AHeap} {e n b od : Nat} {x : Value} {cs : List Value} (h : OwnE H e x n cs b) (hb : od < b) : ∀ id off L n' c, x = .slice (some ⟨id, off, some L⟩) n' c → some od ≠ some id := by
  intro id off L n' c hx e1
  rw [← Option.some.inj e1] at hx
  rcases h with ⟨o, h, h2⟩ | ⟨_, _, id', h3, h4, _⟩
  · cases o with
    | none =>
      rcases h.2.2 with h5 | h5
      · rw [h5] at hx; cases hx
      · rw [h5] at hx; unfold emptySlice at hx; injection hx with h6 _ _; injection h6 with h6; injection h6 with _ _ h6; cases h6
    | some id2 =>
      have h5 := h.2.2.1
      rw [h5] at hx
      injection hx with h6 _ _
      injection h6 with h6
      injection h6 with h7 _ _
      have := h2 id2 rfl
      omega
  · rw [h3] at hx
    injection hx with h6 _ _
    injection h6 with h6
    injection h6 with h7 _ _
    omega
structure WD (B : Nat) (H : AHeap) (n : Nat) (A : Nat → Nat → Bool) (h : Nat → Nat) (xd xs : Value) (od p1 p2 p3 : Nat) (D : Nat → Nat) : Prop where
  g1 : H[p1]? = some (.cells [xd] 24 1 .var)
  g2 : H[p2]? = some (.cells [xs] 53 1 .var)
  g3 : H[p3]? = some (.cells [fDp p1 p2 p3] 55 1 .var)
  dp : Own H 3 1 xd (some od) n (il (nl (farL D n)))
  rd : Rd H 46 8 xs n (sets A n)
  n1 : od ≠ p1
  n2 : od ≠ p2
  n3 : od ≠ p3
  lo : B ≤ od
  ok : ∀ c, c < n → D c = 0 ∨ D c = h c + 1
theorem WD.lt {B : Nat} {H : AHeap} {n : Nat} {A : Nat → Nat → Bool} {h : Nat → Nat} {xd xs : Value} {od p1 p2 p3 : Nat} {D : Nat → Nat} (w : WD B H n A h xd xs od p1 p2 p3 D) : od < H.length := by
  obtain ⟨_, _, _, _, _, g⟩ := w.dp
  exact (List.getElem?_eq_some_iff.1 g).1
theorem WD.stay {B : Nat} {H H' : AHeap} {n : Nat} {A : Nat → Nat → Bool} {h : Nat → Nat} {xd xs : Value} {od p1 p2 p3 : Nat} {D : Nat → Nat} (w : WD B H n A h xd xs od p1 p2 p3 D) (s : Stay none H H') : WD B H' n A h xd xs od p1 p2 p3 D :=
  ⟨by rw [s.2 _ (List.getElem?_eq_some_iff.1 w.g1).1 (by simp)]; exact w.g1, by rw [s.2 _ (List.getElem?_eq_some_iff.1 w.g2).1 (by simp)]; exact w.g2, by rw [s.2 _ (List.getElem?_eq_some_iff.1 w.g3).1 (by simp)]; exact w.g3,
    w.dp.stay s (fun _ _ h => by cases h), w.rd.stay s, w.n1, w.n2, w.n3, w.lo, w.ok⟩
theorem setF_at (F : Nat → Nat) (u c v : Nat) : setF F u c v = if v = u then c else F v := by unfold setF; rfl
/-- One height is noted. -/
theorem WD.put {B : Nat} {H : AHeap} {n : Nat} {A : Nat → Nat → Bool} {h : Nat → Nat} {xd xs : Value} {od p1 p2 p3 : Nat} {D : Nat → Nat} (w : WD B H n A h xd xs od p1 p2 p3 D) {c : Nat} (hc : c < n) {prot : Nat} (hp : prot ≤ od) :
    ∃ L H', aindexAddr cfg.P 24 xd (.int .i64 (c : Nat)) = some (.pointer (some ⟨od, c, some L⟩)) ∧ setCells H prot od L c [.int .i64 ((h c + 1 : Nat) : Int)] = some H' ∧ WD B H' n A h xd xs od p1 p2 p3 (setF D c (h c + 1)) ∧ Stay (some od) H H' := by
  obtain ⟨id, H2, e, s1, s2, s3, s4, s5⟩ := own_setS T34 w.dp (i := c) (j := 0) hc (vs := [.int .i64 ((h c + 1 : Nat) : Int)]) (by simp) rfl (prot := prot) (fun id e => by cases e; exact hp)
  cases e
  rw [put_il _ (by rw [farL_len]; exact hc), farL_set _ hc] at s3
  rw [Nat.mul_one] at s1
  rw [Nat.mul_one, Nat.add_zero] at s2
  obtain ⟨_, _, _, _, _, gd⟩ := w.dp
  refine ⟨_, H2, s1, s2, ⟨?_, ?_, ?_, s3, w.rd.stayE gd (by decide) s4, w.n1, w.n2, w.n3, w.lo, fun v hv => ?_⟩, s4⟩
  · rw [s4.2 _ (List.getElem?_eq_some_iff.1 w.g1).1 (fun e => w.n1 (Option.some.inj e))]; exact w.g1
  · rw [s4.2 _ (List.getElem?_eq_some_iff.1 w.g2).1 (fun e => w.n2 (Option.some.inj e))]; exact w.g2
  · rw [s4.2 _ (List.getElem?_eq_some_iff.1 w.g3).1 (fun e => w.n3 (Option.some.inj e))]; exact w.g3
  · rw [setF_at]
    split
    · rename_i e; subst e; exact .inr rfl
    · exact w.ok v hv
theorem loop25 {B n : Nat} {A : Nat → Nat → Bool} {h : Nat → Nat} (hn : n ≤ 512) (hh : Ht A n h) {xd xs : Value} {od p1 p2 p3 prot c : Nat} (hp : prot ≤ od) (hc : c < n) (hA : ∀ c d, A c d = true → d < n)
    (ih : ∀ d H D, d < n → h d < h c → WD B H n A h xd xs od p1 p2 p3 D → ∃ D' H', callInf cfg 25 [.int .i64 d, .pointer (some ⟨p1, 0, some 1⟩), .pointer (some ⟨p2, 0, some 1⟩), .pointer (some ⟨p3, 0, some 1⟩)] prot H = some (.int .i64 ((h d + 1 : Nat) : Int), H') ∧ WD B H' n A h xd xs od p1 p2 p3 D' ∧ Stay (some od) H H')
    {H0 : AHeap} {x : Value} {l : List Nat} (hl : l = lst (A c) 512) (hne : ∀ id off L n' c, x = .slice (some ⟨id, off, some L⟩) n' c → some od ≠ some id) : ∀ (d i m : Nat) (H : AHeap) (D : Nat → Nat), i + d = l.length → Rd H 3 1 x l.length (il (nl l)) → WD B H n A h xd xs od p1 p2 p3 D →
      (∀ j u, j < i → l[j]? = some u → u ≠ c → h u + 1 ≤ m) → (m = 0 ∨ ∃ u, u < n ∧ u ≠ c ∧ A c u = true ∧ m = h u + 1) →
    ∃ D' H', lpInf (lpOf cfg a25 0 prot H0) ([.int .i64 c, .pointer (some ⟨p1, 0, some 1⟩), .pointer (some ⟨p3, 0, some 1⟩), .int .i64 m, x, .int .i64 l.length, .int .i64 i], H) = some (.exit 0, [.int .i64 c, .pointer (some ⟨p1, 0, some 1⟩), .int .i64 (h c)], H') ∧ WD B H' n A h xd xs od p1 p2 p3 D' ∧ Stay (some od) H H'
  | 0, i, m, H, D, hi, hr, hw, hm1, hm2 => by
    have hmc : m = h c := by
      have le1 : m ≤ h c := by
        rcases hm2 with e | ⟨u, u1, u2, u3, e⟩
        · omega
        · have := hh.ge c u hc u1 u2 u3; omega
      rcases hh.ex c hc with e | ⟨u, u1, u2, u3, e⟩
      · omega
      · have hu : u ∈ l := by rw [hl]; exact lst_mem.2 ⟨by omega, u3⟩
        obtain ⟨j, hj⟩ := List.getElem?_of_mem hu
        have := hm1 j u (by have := (List.getElem?_eq_some_iff.1 hj).1; omega) hj u2
        omega
    subst hmc
    obtain ⟨_, _, hre⟩ := hr.len
    refine ⟨D, H, ?_, hw, Stay.refl _ _⟩
    rw [hre]
    exact lp_last (f25_L0_2 (by omega))
  | d + 1, i, m, H, D, hi, hr, hw, hm1, hm2 => by
    have hil : i < l.length := by omega
    have hll : l.length ≤ 512 := by rw [hl]; exact lst_len _ _
    obtain ⟨u, hu⟩ : ∃ u, l[i]? = some u := ⟨_, List.getElem?_eq_getElem hil⟩
    have hum : u ∈ l := List.mem_of_getElem? hu
    have hu2 : A c u = true := by rw [hl] at hum; exact (lst_mem.1 hum).2
    have hun := hA c u hu2
    have hcs : (il (nl l))[i]? = some (.int .i64 ((u : Nat) : Int)) := by
      unfold il nl; rw [List.getElem?_map, List.getElem?_map, hu]; rfl
    obtain ⟨id, L, a1, a2⟩ := rd_at T34 hr hcs
    have fi : Fit .i64 ((i : Int) + 1) := fit64 (by omega) (by omega)
    obtain ⟨ax, cx, hre⟩ := hr.len
    by_cases e : u = c
    · obtain ⟨D', H', z1, z2, z3⟩ := loop25 hn hh hp hc hA ih (H0 := H0) hl hne d (i + 1) m H D (by omega) hr hw (fun j v hj hv hvc => by
        by_cases ej : j = i
        · subst ej; rw [hu] at hv; cases hv; exact absurd e hvc
        · exact hm1 j v (by omega) hv hvc) hm2
      refine ⟨D', H', ?_, z2, z3⟩
      rw [hre] at a1 z1 ⊢
      exact lp_next (f25_L0_1 (by omega) a1 a2 (by simp [e]) fi) z1
    · have hlt := hh.ge c u hc hun e hu2
      obtain ⟨D1, H1, c1, c2, c3⟩ := ih u H D hun (by omega) hw
      have hif : ((if ((h u + 1 : Nat) : Int) > ((m : Nat) : Int) then ((h u + 1 : Nat) : Int) else ((m : Nat) : Int))) = ((max (h u + 1) m : Nat) : Int) := by split <;> omega
      obtain ⟨D', H', z1, z2, z3⟩ := loop25 hn hh hp hc hA ih (H0 := H0) hl hne d (i + 1) (max (h u + 1) m) H1 D1 (by omega) (hr.stayNe c3 hne) c2 (fun j v hj hv hvc => by
        by_cases ej : j = i
        · subst ej; rw [hu] at hv; cases hv; omega
        · have := hm1 j v (by omega) hv hvc; omega) (by
        rcases Nat.le_total (h u + 1) m with g | g
        · rw [Nat.max_eq_right g]; exact hm2
        · rw [Nat.max_eq_left g]; exact .inr ⟨u, hun, e, hu2, rfl⟩)
      refine ⟨D', H', ?_, z2, c3.trans z3⟩
      rw [← hif] at z1
      have g3 := one_get hw.g3
      rw [hre] at a1 z1 ⊢
      exact lp_next (f25_L0_0 (by omega) a1 a2 (by simp; omega) g3 c1 fi) z1
theorem cWalk {B n : Nat} {A : Nat → Nat → Bool} {h : Nat → Nat} (hn : n ≤ 512) (hh : Ht A n h) {xd xs : Value} {od p1 p2 p3 prot : Nat} (hp : prot ≤ od) (hA : ∀ c d, A c d = true → d < n) : ∀ N c H D, c < n → h c < N → WD B H n A h xd xs od p1 p2 p3 D →
    ∃ D' H', callInf cfg 25 [.int .i64 c, .pointer (some ⟨p1, 0, some 1⟩), .pointer (some ⟨p2, 0, some 1⟩), .pointer (some ⟨p3, 0, some 1⟩)] prot H = some (.int .i64 ((h c + 1 : Nat) : Int), H') ∧ WD B H' n A h xd xs od p1 p2 p3 D' ∧ Stay (some od) H H'
  | 0, c, H, D, _, h0, _ => by omega
  | N + 1, c, H, D, hc, hN, hw => by
    have hlt := hh.lt c hc
    have g1 := one_get hw.g1
    obtain ⟨id, L, a1, a2⟩ := own_at T34 hw.dp (farL_get hc)
    obtain ⟨ad, cd, hd⟩ := hw.dp.len
    by_cases h0 : D c = 0
    · have g2 := one_get hw.g2
      obtain ⟨i2, L2, b1, b2⟩ := rd_atS T46 hw.rd hc
      have b2 := b2 0 8 (Nat.le_refl _)
      rw [Nat.add_zero, sets_get A n hc] at b2
      obtain ⟨x, H1, l1, l2, l3⟩ := cList (A c) prot H
      have hw1 := hw.stay l3
      obtain ⟨D1, H2, z1, z2, z3⟩ := loop25 hn hh (B := B) hp hc hA (fun d H D h1 h2 h3 => cWalk hn hh hp hA N d H D h1 (by omega) h3) (H0 := H) rfl (OwnE.ne l2 hw.lt) (lst (A c) 512).length 0 0 H1 D (by omega) l2.rd hw1 (fun j u hj => by omega) (.inl rfl)
      obtain ⟨L3, H3, e1, e2, e3, e4⟩ := z2.put hc hp
      obtain ⟨i5, L5, q1, q2⟩ := own_at T34 e3.dp (farL_get hc)
      rw [setF_at, if_pos rfl] at q2
      have sx : Stay (some od) H H1 := ⟨l3.1, fun q hq _ => l3.2 q hq (by simp)⟩
      refine ⟨_, H3, ?_, e3, (sx.trans z3).trans e4⟩
      obtain ⟨ax, cx, hx⟩ := l2.rd.len
      obtain ⟨ay, cy, hs⟩ := hw.rd.len
      rw [h0] at a2
      have gg1 := one_get z2.g1
      have gg3 := one_get e3.g1
      subst hx; subst hs; subst hd
      have e2' : setCells H2 prot od L3 c [.int .i64 ((h c : Int) + 1)] = some H3 := by
        rw [show ((h c : Int) + 1) = ((h c + 1 : Nat) : Int) by push_cast; rfl]; exact e2
      exact f25_F_0 (x17 := setA (A c)) g1 a1 a2 (by simp) g2 b1 b2 l1 z1 gg1 (fit64 (by omega) (by omega)) e1 rfl e2' gg3 q1 q2
    · have hok : D c = h c + 1 := by rcases hw.ok c hc with e | e; exact absurd e h0; exact e
      rw [hok] at a2
      refine ⟨D, H, ?_, hw, Stay.refl _ _⟩
      subst hd
      exact f25_F_1 g1 a1 a2 (by simp; omega) g1 a1 a2
end Go.Proofs.YtkemihfaohkoeaaDoor.Am11d
namespace Go.Proofs.YtkemihfaohkoeaaDoor.Am11d
open Go Go.Proofs.YtkemihfaohkoeaaDoor.Am
/-! Depth. -/
theorem loop7 {H0 : AHeap} {n : Nat} {A : Nat → Nat → Bool} {h : Nat → Nat} (hn : n ≤ 512) (hh : Ht A n h) (hA : ∀ c d, A c d = true → d < n) {xd xs : Value} {od p1 p2 p3 prot : Nat} : ∀ (d i : Nat) (H : AHeap) (D : Nat → Nat), i + d = n → WD H0.length H n A h xd xs od p1 p2 p3 D →
    ∃ H', lpInf (lpOf cfg a7 0 prot H0) ([.pointer (some ⟨p3, 0, some 1⟩), .int .i64 ((1 + topH h i : Nat) : Int), .int .i64 n, .int .i64 i], H) = some (.exit 0, [.int .i64 ((1 + topH h n : Nat) : Int)], H')
  | 0, i, H, D, hi, hw => by
    have : i = n := by omega
    subst this
    exact ⟨H, lp_last (f7_L0_1 (by omega))⟩
  | d + 1, i, H, D, hi, hw => by
    obtain ⟨D1, H1, c1, c2, c3⟩ := cWalk hn hh (B := H0.length) hw.lo hA (h i + 1) i H D (by omega) (by omega) hw
    obtain ⟨H', z1⟩ := loop7 hn hh hA (prot := prot) d (i + 1) H1 D1 (by omega) c2
    refine ⟨H', ?_⟩
    have hif : (if ((h i + 1 : Nat) : Int) > ((1 + topH h i : Nat) : Int) then ((h i + 1 : Nat) : Int) else ((1 + topH h i : Nat) : Int)) = ((1 + topH h (i + 1) : Nat) : Int) := by
      rw [topH]; split <;> omega
    rw [← hif] at z1
    exact lp_next (f7_L0_0 (by omega) (one_get hw.g3) c1 (fit64 (by omega) (by omega))) z1
noncomputable def hG (G : List (List Int)) : Nat → Nat := hgt (abv G) (comp G).2 (comp G).2
theorem abv_lt {G : List (List Int)} {c d : Nat} (h : abv G c d = true) : c < (comp G).2 ∧ d < (comp G).2 := by
  obtain ⟨v, u, hv, hu, e1, e2, _⟩ := abv_iff.1 h
  exact ⟨by rw [← e1]; exact Lc_lt hv, by rw [← e2]; exact Lc_lt hu⟩
theorem hG_ok (G : List (List Int)) : Ht (abv G) (comp G).2 (hG G) :=
  hgt_ok (fun c d e h1 h2 => abv_iff.2 ((abv_iff.1 h1).trans (abv_iff.1 h2))) (fun c d h1 h2 => (abv_iff.1 h1).anti (abv_iff.1 h2))
noncomputable def dpt (G : List (List Int)) : Nat := topH (hG G) (comp G).2
theorem dpt_lt {G : List (List Int)} : dpt G ≤ 512 ∨ 512 < (comp G).2 := by
  by_cases h : 0 < (comp G).2
  · have := (hG_ok G).top_lt h
    unfold dpt; omega
  · left
    unfold dpt
    rw [show (comp G).2 = 0 by omega]
    exact Nat.zero_le _
theorem cDepth {G : List (List Int)} (hs : Short G) {vG : Value} (prot : Nat) {H : AHeap} (hg : Gr H vG G) :
    callInf cfg 7 [vG] prot H = some (.tuple #[.int .i64 (if chk G = 0 then ((dpt G : Nat) : Int) else 0), .int .i64 (chk G)], H) := by
  have h22 := c25 hs H.length hg
  obtain ⟨aG, cG, rfl⟩ := hg.len
  by_cases h : chk G = 0
  · rw [if_pos h]
    have hGd := good_of hs h
    have h5 := hGd.1
    have hn := comp_n G
    obtain ⟨xs, H1, w1, w2, w3⟩ := c40 hGd H.length hg
    obtain ⟨n, hn'⟩ : ∃ n, n = (comp G).2 := ⟨_, rfl⟩
    have hxr := w2.rd
    obtain ⟨ax, cx, rfl⟩ := hxr.len
    obtain ⟨HA, hHA⟩ : ∃ HA, HA = H1 ++ [vo [.slice none 0 0] 53] := ⟨_, rfl⟩
    have sA : Stay none H1 HA := by rw [hHA]; exact Stay.app none H1 _
    have lA : HA.length = H1.length + 1 := by rw [hHA]; simp
    have gA : HA[H1.length]? = some (.cells [.slice none 0 0] 53 1 .var) := by rw [hHA]; exact append_get.1
    obtain ⟨H2, hH2⟩ : ∃ H2, H2 = HA.set H1.length (.cells [.slice ax (comp G).2 cx] 53 1 .var) := ⟨_, rfl⟩
    have s2 : Stay (some H1.length) HA H2 := by rw [hH2]; exact set_stay
    have l2 : H2.length = H1.length + 1 := by rw [hH2, List.length_set, lA]
    have hlen := w3.1
    have e2 : setCells HA H.length H1.length 1 0 [.slice ax (comp G).2 cx] = some H2 := by rw [hH2]; exact arr_put gA rfl hlen rfl rfl
    have g2 : H2[H1.length]? = some (.cells [.slice ax (comp G).2 cx] 53 1 .var) := by rw [hH2, List.getElem?_set_self (by omega)]
    have r2 : Rd H2 46 8 (.slice ax (comp G).2 cx) (comp G).2 (sets (abv G) (comp G).2) := (hxr.stay sA).stayE gA (by decide) s2
    obtain ⟨HB, hHB⟩ : ∃ HB, HB = H2 ++ [AObj.cells (repCells [.int .i64 0] (comp G).2) 3 (repCells [.int .i64 0] (comp G).2).length .row] := ⟨_, rfl⟩
    have sB : Stay none H2 HB := by rw [hHB]; exact Stay.app none H2 _
    have lB : HB.length = H1.length + 2 := by rw [hHB, List.length_append, List.length_singleton]; omega
    obtain ⟨HC, hHC⟩ : ∃ HC, HC = HB ++ [vo [.slice none 0 0] 24] := ⟨_, rfl⟩
    have sC : Stay none HB HC := by rw [hHC]; exact Stay.app none HB _
    have lC : HC.length = H1.length + 3 := by rw [hHC, List.length_append, List.length_singleton]; omega
    have gC : HC[HB.length]? = some (.cells [.slice none 0 0] 24 1 .var) := by rw [hHC]; exact append_get.1
    obtain ⟨xd, hxd⟩ : ∃ xd : Value, xd = .slice (some ⟨H2.length, 0, some ((((comp G).2 : Nat) : Int).toNat * 1)⟩) (((comp G).2 : Nat) : Int).toNat (((comp G).2 : Nat) : Int).toNat := ⟨_, rfl⟩
    obtain ⟨H3, hH3⟩ : ∃ H3, H3 = HC.set HB.length (.cells [xd] 24 1 .var) := ⟨_, rfl⟩
    have s3 : Stay (some HB.length) HC H3 := by rw [hH3]; exact set_stay
    have l3 : H3.length = H1.length + 3 := by rw [hH3, List.length_set, lC]
    have e3 : setCells HC H.length HB.length 1 0 [xd] = some H3 := by rw [hH3]; exact arr_put gC rfl (by omega) rfl (by rw [hxd]; rfl)
    obtain ⟨HD, hHD⟩ : ∃ HD, HD = H3 ++ [vo [.nilFunc] 55] := ⟨_, rfl⟩
    have sD : Stay none H3 HD := by rw [hHD]; exact Stay.app none H3 _
    have lD : HD.length = H1.length + 4 := by rw [hHD, List.length_append, List.length_singleton]; omega
    have gD : HD[H3.length]? = some (.cells [.nilFunc] 55 1 .var) := by rw [hHD]; exact append_get.1
    obtain ⟨H4, hH4⟩ : ∃ H4, H4 = HD.set H3.length (.cells [fDp HB.length H1.length H3.length] 55 1 .var) := ⟨_, rfl⟩
    have s4 : Stay (some H3.length) HD H4 := by rw [hH4]; exact set_stay
    have e4 : setCells HD H.length H3.length 1 0 [fDp HB.length H1.length H3.length] = some H4 := by rw [hH4]; exact arr_put gD rfl (by omega) rfl rfl
    have k2 : H4[H1.length]? = some (.cells [.slice ax (comp G).2 cx] 53 1 .var) := by
      rw [s4.2 _ (by omega) (fun e => by have := Option.some.inj e; omega), sD.2 _ (by omega) (by simp), s3.2 _ (by omega) (fun e => by have := Option.some.inj e; omega), sC.2 _ (by omega) (by simp), sB.2 _ (by omega) (by simp)]; exact g2
    have k1 : H4[HB.length]? = some (.cells [xd] 24 1 .var) := by
      rw [s4.2 _ (by omega) (fun e => by have := Option.some.inj e; omega), sD.2 _ (by omega) (by simp), hH3, List.getElem?_set_self (by omega)]
    have k3 : H4[H3.length]? = some (.cells [fDp HB.length H1.length H3.length] 55 1 .var) := by rw [hH4, List.getElem?_set_self (by omega)]
    have key : ∃ H5, lpInf (lpOf cfg a7 0 prot H) ([.pointer (some ⟨H3.length, 0, some 1⟩), .int .i64 1, .int .i64 (comp G).2, .int .i64 0], H4) = some (.exit 0, [.int .i64 ((1 + dpt G : Nat) : Int)], H5) := by
      by_cases h0 : 0 < (comp G).2
      · have m : Own HB 3 1 xd (some H2.length) (comp G).2 (il (nl (farL (fun _ => 0) (comp G).2))) := by
          have hm := own_mk (e := 3) h0 H2 (.int .i64 0)
          rw [hxd, hHB, Int.toNat_natCast]
          have : il (nl (farL (fun _ => 0) (comp G).2)) = List.replicate (comp G).2 (.int .i64 0) := by
            unfold il nl farL
            rw [List.map_map, List.map_map, List.eq_replicate_iff]
            refine ⟨by simp, fun b hb => ?_⟩
            obtain ⟨_, _, rfl⟩ := List.mem_map.1 hb
            rfl
          rw [this]
          exact hm
        have m4 : Own H4 3 1 xd (some H2.length) (comp G).2 (il (nl (farL (fun _ => 0) (comp G).2))) :=
          (((m.stay sC (fun _ _ h => by cases h)).stay s3 (fun id e1 e2 => by cases e1; have := Option.some.inj e2; omega)).stay sD (fun _ _ h => by cases h)).stay s4 (fun id e1 e2 => by cases e1; have := Option.some.inj e2; omega)
        have r4 : Rd H4 46 8 (.slice ax (comp G).2 cx) (comp G).2 (sets (abv G) (comp G).2) := ((((r2.stay sB).stay sC).stayE gC (by decide) s3).stay sD).stayE gD (by decide) s4
        have hw : WD H.length H4 (comp G).2 (abv G) (hG G) xd (.slice ax (comp G).2 cx) H2.length HB.length H1.length H3.length (fun _ => 0) :=
          ⟨k1, k2, k3, m4, r4, by omega, by omega, by omega, by omega, fun _ _ => .inl rfl⟩
        exact loop7 (by omega) (hG_ok G) (fun c d h => (abv_lt h).2) (comp G).2 0 H4 _ (by omega) hw
      · have hz : (comp G).2 = 0 := by omega
        refine ⟨H4, ?_⟩
        have : dpt G = 0 := by unfold dpt; rw [hz]; rfl
        rw [this, hz]
        exact lp_last (f7_L0_1 (by decide))
    obtain ⟨H5, z1⟩ := key
    have hd := dpt_lt (G := G)
    have hz8 : (((1 + dpt G : Nat) : Int) - 1) = ((dpt G : Nat) : Int) := by omega
    rw [h] at h22 ⊢
    subst hHD; subst hHC; subst hHB; subst hHA
    have := f7_F_1 (x0a := aG) (x0n := G.length) (x0c := cG) (prot := prot) h22 rfl w1 rfl e2 (one_get g2) (by omega) rfl (by omega) (by omega) rfl (by rw [← hxd]; exact e3) rfl e4 (one_get k2) z1 (fit64 (by omega) (by omega))
    rw [hz8] at this
    exact this
  · rw [if_neg h]
    exact f7_F_0 h22 (by simp [h])
end Go.Proofs.YtkemihfaohkoeaaDoor.Am11d
namespace Go.Proofs.YtkemihfaohkoeaaDoor.Am11d
open Go Go.Proofs.YtkemihfaohkoeaaDoor.Am
abbrev p8 (p : Nat) : Value := .pointer (some ⟨p, 0, some 8⟩)
theorem addS_mono {S : Nat → Bool} {u x : Nat} (h : S x = true) : addS S u x = true := by unfold addS; rw [h]; rfl
theorem addS_self (S : Nat → Bool) (u : Nat) : addS S u u = true := by unfold addS; simp
theorem loop44a {G : List (List Int)} (hG : G.length ≤ 512) {F : List Nat} (hF : ∀ f ∈ F, f < G.length) (hFl : F.length ≤ 140737488355328) {H0 : AHeap} {x0 x1 : Value} (hx0 : ∃ a c, x0 = .slice a G.length c) (h1 : Rd H0 3 1 x1 F.length (il (nl F))) {p4 p5 prot : Nat} : ∀ (d i : Nat) (S : Nat → Bool) (todo : List Nat) (x6 : Value) (o6 : Option Nat) (H : AHeap), i + d = F.length → Q H0 H p4 p5 x6 o6 S todo → WI G F S todo G.length → (∀ j f, j < i → F[j]? = some f → S f = true) →
    ∃ S' todo' x' o' H', lpInf (lpOf cfg a48 0 prot H0) ([x0, x1, p8 p4, p8 p5, x6, .int .i64 i], H) = some (.exit 0, [x0, p8 p4, p8 p5, x'], H') ∧ Q H0 H' p4 p5 x' o' S' todo' ∧ WI G F S' todo' G.length ∧ ∀ f ∈ F, S' f = true
  | 0, i, S, todo, x6, o6, H, hi, hq, hw, hd => by
    refine ⟨S, todo, x6, o6, H, ?_, hq, hw, fun f hf => ?_⟩
    · obtain ⟨_, _, rfl⟩ := hx0
      obtain ⟨_, _, rfl⟩ := h1.len
      obtain ⟨_, _, rfl⟩ := hq.sk.len
      exact lp_last (f48_L0_2 (by omega))
    · obtain ⟨j, hj⟩ := List.getElem?_of_mem hf
      have := (List.getElem?_eq_some_iff.1 hj).1
      exact hd j f (by omega) hj
  | d + 1, i, S, todo, x6, o6, H, hi, hq, hw, hd => by
    have hil : i < F.length := by omega
    have hu := hF _ (List.getElem_mem hil)
    obtain ⟨id, L, a1, a2⟩ := rd_at T34 (h1.stay hq.st) (nl_get hil)
    have h20 := c20 (S := S) (show F[i] < 512 by omega) H0.length H
    have fi : Fit .i64 ((i : Int) + 1) := fit64 (by omega) (by omega)
    have next : ∀ T : Nat → Bool, (∀ x, S x = true → T x = true) → T F[i] = true → ∀ j f, j < i + 1 → F[j]? = some f → T f = true := fun T h2 h3 j f hj hf => by
      by_cases e : j = i
      · subst e
        rw [List.getElem?_eq_getElem hil] at hf
        cases hf
        exact h3
      · exact h2 _ (hd j f (by omega) hf)
    by_cases hs : S F[i] = true
    · rw [hs] at h20
      obtain ⟨S', todo', x', o', H', z1, z2⟩ := loop44a hG hF hFl hx0 h1 (prot := prot) d (i + 1) S todo x6 o6 H (by omega) hq hw (next S (fun _ h => h) hs)
      refine ⟨S', todo', x', o', H', ?_, z2⟩
      obtain ⟨_, _, rfl⟩ := hx0
      obtain ⟨_, _, rfl⟩ := h1.len
      obtain ⟨_, _, rfl⟩ := hq.sk.len
      exact lp_next (f48_L0_0 (x16 := setA S) (by omega) (slot_get hq.g5) a1 a2 h20 rfl fi) z1
    · have hs : S F[i] = false := by simpa using hs
      rw [hs] at h20
      have h43 := c43 (S := S) (show F[i] < 512 by omega) H0.length H
      have hlen := hw.cnt
      obtain ⟨H2, a', c', o', H3, k1, k2, k3, k4⟩ := hq.push (u := F[i]) (by omega)
      obtain ⟨id2, L2, b1, b2⟩ := rd_at T34 (h1.stay k2) (nl_get hil)
      obtain ⟨S', todo', x', o2, H', z1, z2⟩ := loop44a hG hF hFl hx0 h1 (prot := prot) d (i + 1) _ _ _ _ H3 (by omega) k4 (hw.push hu hs (.inl (List.getElem_mem hil))) (next _ (fun _ h => addS_mono h) (addS_self _ _))
      refine ⟨S', todo', x', o2, H', ?_, z2⟩
      obtain ⟨_, _, rfl⟩ := hx0
      obtain ⟨_, _, rfl⟩ := h1.len
      obtain ⟨_, _, rfl⟩ := hq.sk.len
      exact lp_next (f48_L0_1 (x16 := setA S) (x23 := setA S) (x28 := setA (addS S F[i])) (by omega) (slot_get hq.g5) a1 a2 h20 rfl (slot_get hq.g5) a1 a2 h43 (setL_len _) k1 b1 b2 k3 fi) z1

theorem loop44c {G : List (List Int)} (hG : Good G) {F : List Nat} {H0 : AHeap} {x0 : Value} (hg : Gr H0 x0 G) {p4 p5 prot v : Nat} (hv : v < G.length) (hR : RF G F v) : ∀ (d i : Nat) (S : Nat → Bool) (todo : List Nat) (x6 : Value) (o6 : Option Nat) (H : AHeap), i + d = G[v].length → Q H0 H p4 p5 x6 o6 S todo → WI G F S todo v → S v = true → (∀ j u, j < i → (sc G v)[j]? = some u → S u = true) →
    ∃ S' todo' x' o' H', lpInf (lpOf cfg a48 2 prot H0) ([x0, p8 p4, p8 p5, x6, .int .i64 v, .int .i64 i], H) = some (.exit 4, [x0, p8 p4, p8 p5, x'], H') ∧ Q H0 H' p4 p5 x' o' S' todo' ∧ WI G F S' todo' G.length ∧ (∀ x, S x = true → S' x = true) ∧ 2 * un G.length S' + todo'.length ≤ 2 * un G.length S + todo.length
  | 0, i, S, todo, x6, o6, H, hi, hq, hw, hsv, hd => by
    obtain ⟨id, L, r, a1, a2, a3⟩ := (hg.stay hq.st).row hv
    refine ⟨S, todo, x6, o6, H, ?_, hq, ⟨hw.sound, hw.low, hw.inS, fun x hx h2 _ u hu => ?_, hw.cnt⟩, fun _ h => h, Nat.le_refl _⟩
    · obtain ⟨_, _, rfl⟩ := hg.len
      obtain ⟨_, _, rfl⟩ := hq.sk.len
      obtain ⟨_, _, rfl⟩ := a3.len
      exact lp_last (f48_L2_2 a1 a2 (by omega))
    · by_cases e : x = v
      · subst e
        obtain ⟨j, hj⟩ := List.getElem?_of_mem hu
        have := (List.getElem?_eq_some_iff.1 hj).1
        rw [sc_len hv] at this
        exact hd j u (by omega) hj
      · exact hw.clo x hx h2 e u hu
  | d + 1, i, S, todo, x6, o6, H, hi, hq, hw, hsv, hd => by
    have hG5 := hG.1
    have hil : i < G[v].length := by omega
    have hshort := hG.2.1 _ (List.getElem_mem hv)
    obtain ⟨u, hue, hul, hsc⟩ := sc_get hG hv hil
    obtain ⟨id, L, r, a1, a2, a3⟩ := (hg.stay hq.st).row hv
    obtain ⟨id3, L3, d1, d2⟩ := rd_at T34 a3 (il_get hil)
    rw [hue] at d2
    have h20 := c20 (S := S) (show u < 512 by omega) H0.length H
    have fi : Fit .i64 ((i : Int) + 1) := fit64 (by omega) (by omega)
    have next : ∀ T : Nat → Bool, (∀ x, S x = true → T x = true) → T u = true → ∀ j w, j < i + 1 → (sc G v)[j]? = some w → T w = true := fun T h2 h3 j f hj hf => by
      by_cases e : j = i
      · subst e
        rw [hsc] at hf
        cases hf
        exact h3
      · exact h2 _ (hd j f (by omega) hf)
    by_cases hs : S u = true
    · rw [hs] at h20
      obtain ⟨S', todo', x', o', H', z1, z2⟩ := loop44c hG hg (prot := prot) hv hR d (i + 1) S todo x6 o6 H (by omega) hq hw hsv (next S (fun _ h => h) hs)
      refine ⟨S', todo', x', o', H', ?_, z2⟩
      obtain ⟨_, _, rfl⟩ := hg.len
      obtain ⟨_, _, rfl⟩ := hq.sk.len
      obtain ⟨_, _, rfl⟩ := a3.len
      exact lp_next (f48_L2_0 (x59 := setA S) a1 a2 (by omega) (slot_get hq.g5) a1 a2 d1 d2 h20 rfl fi) z1
    · have hs : S u = false := by simpa using hs
      rw [hs] at h20
      have h43 := c43 (S := S) (show u < 512 by omega) H0.length H
      have hlen := hw.cnt
      obtain ⟨H2, a', c', o', H3, k1, k2, k3, k4⟩ := hq.push (u := u) (by omega)
      obtain ⟨id2, L2, r2, b1, b2, b3⟩ := (hg.stay k2).row hv
      obtain ⟨id4, L4, e1, e2⟩ := rd_at T34 b3 (il_get hil)
      rw [hue] at e2
      have hun := un_add hs G.length
      rw [if_pos hul] at hun
      obtain ⟨S', todo', x', o2, H', z1, z2, z3, z4, z5⟩ := loop44c hG hg (prot := prot) hv hR d (i + 1) _ _ _ _ H3 (by omega) k4 (hw.push hul hs (hR.step (List.mem_of_getElem? hsc))) (addS_mono hsv) (next _ (fun _ h => addS_mono h) (addS_self _ _))
      rw [List.length_append, List.length_singleton] at z5
      refine ⟨S', todo', x', o2, H', ?_, z2, z3, fun x hx => z4 x (addS_mono hx), by omega⟩
      obtain ⟨_, _, rfl⟩ := hg.len
      obtain ⟨_, _, rfl⟩ := hq.sk.len
      obtain ⟨_, _, rfl⟩ := a3.len
      obtain ⟨_, _, rfl⟩ := b3.len
      exact lp_next (f48_L2_1 (x59 := setA S) (x69 := setA S) (x77 := setA (addS S u)) a1 a2 (by omega) (slot_get hq.g5) a1 a2 d1 d2 h20 rfl (slot_get hq.g5) a1 a2 d1 d2 h43 (setL_len _) k1 b1 b2 e1 e2 k3 fi) z1

theorem loop44b {G : List (List Int)} (hG : Good G) {F : List Nat} {H0 : AHeap} {x0 : Value} (hg : Gr H0 x0 G) {p4 p5 prot : Nat} : ∀ (N : Nat) (S : Nat → Bool) (todo : List Nat) (x6 : Value) (o6 : Option Nat) (H : AHeap), 2 * un G.length S + todo.length < N → Q H0 H p4 p5 x6 o6 S todo → WI G F S todo G.length → (∀ f ∈ F, S f = true) →
    ∃ S' x' o' H', lpInf (lpOf cfg a48 1 prot H0) ([x0, p8 p4, p8 p5, x6], H) = some (.exit 2, [p8 p4, p8 p5], H') ∧ Q H0 H' p4 p5 x' o' S' [] ∧ ∀ x, S' x = rfS G F x
  | 0, S, todo, x6, o6, H, hN, hq, hw, hF => by omega
  | N + 1, S, todo, x6, o6, H, hN, hq, hw, hF => by
    have hG5 := hG.1
    cases ht : todo.getLast? with
    | none =>
      have h0 : todo = [] := List.getLast?_eq_none_iff.1 ht
      subst h0
      refine ⟨S, x6, o6, H, ?_, hq, hw.done hF⟩
      obtain ⟨_, _, rfl⟩ := hg.len
      obtain ⟨_, _, rfl⟩ := hq.sk.len
      exact lp_last (f48_L1_1 (by simp))
    | some v =>
      obtain ⟨t, rfl⟩ : ∃ t, todo = t ++ [v] := ⟨todo.dropLast, by
        have hne : todo ≠ [] := fun h => by rw [h] at ht; cases ht
        rw [List.getLast?_eq_some_getLast hne] at ht
        have := List.dropLast_concat_getLast hne
        rw [Option.some.inj ht] at this
        exact this.symm⟩
      have hsv : S v = true := hw.inS v (by simp)
      have hv := hw.low v hsv
      have hR := hw.sound v hsv
      have hcnt := hw.cnt
      rw [List.length_append, List.length_singleton] at hcnt hN
      have hk := hq.sk
      have hn : (t ++ [v]).length = t.length + 1 := by simp
      rw [hn] at hk
      have hlast : (il (nl (t ++ [v])))[t.length]? = some (.int .i64 (v : Int)) := by rw [il_snoc, List.getElem?_append_right (by simp [il, nl])]; simp [il, nl]
      obtain ⟨id, L, a1, a2⟩ := rd_last T34 hk.rd hlast
      obtain ⟨a', c', s1, s2⟩ := stk_pop T34 hk (by omega)
      have hdl : (il (nl (t ++ [v]))).dropLast = il (nl t) := by rw [il_snoc, List.dropLast_concat]
      rw [hdl, Nat.add_sub_cancel] at s2
      have hq2 : Q H0 H p4 p5 (.slice a' (t.length + 1 - 1) c') o6 S t := ⟨hq.st, hq.g5, hq.b5, hq.g4, hq.n45, by rw [Nat.add_sub_cancel]; exact s2, hq.bo⟩
      have hw2 : WI G F S t v := ⟨hw.sound, hw.low, fun x hx => hw.inS x (by simp [hx]), fun x hx h1 h2 u hu => hw.clo x hx (by simp [h1, h2]) (by have := hw.low x hx; omega) u hu, by omega⟩
      obtain ⟨S', t', x', o', H', z1, z2, z3, z4, z5⟩ := loop44c hG hg (prot := prot) hv hR G[v].length 0 S t _ o6 H (by omega) hq2 hw2 hsv (fun j u hj => by omega)
      obtain ⟨S2, x2, o2, H2, w1, w2, w3⟩ := loop44b hG hg (prot := prot) N S' t' x' o' H' (by omega) z2 z3 (fun f hf => z4 f (hF f hf))
      refine ⟨S2, x2, o2, H2, ?_, w2, w3⟩
      obtain ⟨_, _, rfl⟩ := hg.len
      obtain ⟨_, _, rfl⟩ := hk.len
      obtain ⟨_, _, rfl⟩ := z2.sk.len
      exact lp_next (f48_L1_0 (by omega) (fit64 (by omega) (by omega)) a1 a2 s1 z1) w1

theorem c44 {G : List (List Int)} (hG : Good G) {F : List Nat} (hF : ∀ f ∈ F, f < G.length) (hFl : F.length ≤ 140737488355328) {x0 x1 : Value} (prot : Nat) {H : AHeap} (hg : Gr H x0 G) (h1 : Rd H 3 1 x1 F.length (il (nl F))) :
    callInf cfg 48 [x0, x1] prot H = some (.agg (setA (rfS G F)), H) := by
  obtain ⟨HA, hHA⟩ : ∃ HA, HA = H ++ [AObj.cells (setL noS) 46 8 .var] := ⟨_, rfl⟩
  have lA : HA.length = H.length + 1 := by rw [hHA, List.length_append, List.length_singleton]
  have sA : Stay none H HA := by rw [hHA]; exact Stay.app none H _
  have a1 := al39 H
  rw [← hHA] at a1
  have gA : HA[H.length]? = some (.cells (setL noS) 46 8 .var) := by rw [hHA]; exact append_get.1
  obtain ⟨HB, hHB⟩ : ∃ HB, HB = HA ++ [AObj.cells (setL noS) 46 8 .var] := ⟨_, rfl⟩
  have lB : HB.length = H.length + 2 := by rw [hHB, List.length_append, List.length_singleton]; omega
  have sB : Stay none HA HB := by rw [hHB]; exact Stay.app none HA _
  have a2 := al39 HA
  rw [← hHB] at a2
  have gB : HB[HA.length]? = some (.cells (setL noS) 46 8 .var) := by rw [hHB]; exact append_get.1
  have gB0 : HB[H.length]? = some (.cells (setL noS) 46 8 .var) := by rw [sB.2 _ (by omega) (by simp)]; exact gA
  have hq : Q H HB H.length HA.length (.slice none 0 0) none noS [] := ⟨sA.trans sB, gB, by omega, gB0, by omega, stk_nil, fun id e => by cases e⟩
  obtain ⟨S1, t1, x1', o1, H3, z1, z2, z3, z4⟩ := loop44a hG.1 hF hFl hg.len h1 (prot := prot) F.length 0 noS [] _ none HB (by omega) hq (WI.start G F G.length) (fun j f hj => by omega)
  obtain ⟨S2, x2, o2, H4, w1, w2, w3⟩ := loop44b hG hg (prot := prot) _ S1 t1 x1' o1 H3 (Nat.lt_succ_self _) z2 z3 z4
  have hT : setL S2 = setL (rfS G F) := setL_congr fun x _ => w3 x
  have g5 := w2.g5
  rw [hT] at g5
  have g4 := w2.g4
  obtain ⟨H5, hH5⟩ : ∃ H5, H5 = H4.set H.length (.cells (setL (rfS G F)) 46 8 .var) := ⟨_, rfl⟩
  have e5 : setCells H4 H.length H.length 8 0 (setL (rfS G F)) = some H5 := by rw [hH5]; exact arr_put g4 (setL_len _) (Nat.le_refl _) (setL_len _) (setL_cell _)
  have gF : H5[H.length]? = some (.cells (setL (rfS G F)) 46 8 .var) := by rw [hH5, List.getElem?_set_self (List.getElem?_eq_some_iff.1 g4).1]
  obtain ⟨_, _, rfl⟩ := hg.len
  obtain ⟨_, _, rfl⟩ := h1.len
  obtain ⟨_, _, rfl⟩ := z2.sk.len
  exact f48_F_0 (x88 := setA (rfS G F)) (w := setA (rfS G F)) _ _ a1 a2 z1 w1 (arr_all g5 (setL_len _)) (setL_len _) e5 (arr_all gF (setL_len _)) (pf_plain rfl (by rw [List.all_cons, setA_plain]; rfl))
end Go.Proofs.YtkemihfaohkoeaaDoor.Am11d
set_option linter.unusedVariables false
open Go Go.Proofs.YtkemihfaohkoeaaDoor.Am
namespace Go.Proofs.YtkemihfaohkoeaaDoor.Am11d
end Go.Proofs.YtkemihfaohkoeaaDoor.Am11d
namespace Go.Proofs.YtkemihfaohkoeaaDoor.Am11d
open Go Go.Proofs.YtkemihfaohkoeaaDoor.Am
/-- All on a cycle. -/
noncomputable def lps (G : List (List Int)) : Nat → Bool := fun x => @decide (x < G.length ∧ Rch G x x) (Classical.propDecidable _)
/-- What Loops answers. -/
noncomputable def loopsV (G : List (List Int)) : (Nat → Bool) × Int := if chk G ≠ 0 then (noS, chk G) else (lps G, 0)
end Go.Proofs.YtkemihfaohkoeaaDoor.Am11d
namespace Go.Proofs.YtkemihfaohkoeaaDoor.Am
open Go

def runFold (P : Program) {α β : Type} (f : α → β → Sem (ForInStep β)) : List α → β → Option β
  | [], b => some b
  | a :: l, b => (apure P (f a b)).bind fun r =>
    match r with
    | .done b => some b
    | .yield b => runFold P f l b
def stepEq (P : Program) (e : TypeId) (q : IntKind) (d : Nat) (xs ys : List Int) (i : Nat) : Sem (ForInStep (Option Bool × Unit)) := do
  let a ← part e (xs.map (Value.int q)).toArray (i * 1)
  let b ← part e (ys.map (Value.int q)).toArray (i * 1)
  let r ← Op.equalIn (d + 1) e a b
  if (!r) = true then pure (ForInStep.done (some false, ())) else pure (ForInStep.yield (none, ()))

/-! ### Arrays of whole numbers as keys -/
def keyV (q : IntKind) (xs : List Int) : Value := .agg (xs.map (Value.int q)).toArray

def stepCk (emp : Bool) (e : TypeId) (q : IntKind) (d : Nat) (xs : List Int) (i : Nat) : Sem (ForInStep Unit) := do
  let n ← sizeOf e
  let a ← part e (xs.map (Value.int q)).toArray (i * n)
  Instr.checkKey emp (d + 1) e a
  pure (ForInStep.yield ())
def kidx (xs : List Int) (ks : List (List Int)) : Option Nat := ks.findIdx? fun y => decide (xs = y)

end Go.Proofs.YtkemihfaohkoeaaDoor.Am
namespace Go.Proofs.YtkemihfaohkoeaaDoor.Am11d
open Go Go.Proofs.YtkemihfaohkoeaaDoor.Am
theorem rfS_one (G : List (List Int)) (v : Nat) : rfS G [v] = rs G v := by
  funext x
  rw [Bool.eq_iff_iff, rfS_iff, rs_iff]
  unfold RF
  simp
end Go.Proofs.YtkemihfaohkoeaaDoor.Am11d
set_option linter.unusedVariables false
open Go Go.Proofs.YtkemihfaohkoeaaDoor.Am
namespace Go.Proofs.YtkemihfaohkoeaaDoor.Am11d
theorem f40_F_0 {x0a : Option Addr} {x0n x0c : Nat} {H : AHeap} {prot : Nat} {z3a : Option Addr} {z3n z3c : Nat} {H1 : AHeap} (rv : Value) (rH : AHeap) (h1 : lpInf (lpOf cfg a40 0 prot H) ([Value.slice x0a x0n x0c, Value.slice none 0 0, Value.int .i64 0], H) = some (Ex.exit 0, [Value.slice z3a z3n z3c], H1)) (h2 : pfin a40 H [Value.slice z3a z3n z3c] H1 = (rv, rH)) : callInf cfg 40 [.slice x0a x0n x0c] prot H = some (rv, rH) :=
  fn_of2 a40 [.lo (.exit 0, [.slice z3a z3n z3c], H1)] (ai h1 h2) (by kernel_rfl) rfl
theorem f40_L0_0 {x0a : Option Addr} {x0n x0c : Nat} {x3a : Option Addr} {x3n x3c : Nat} {x4 : Int} {H0 : AHeap} {prot : Nat} {H : AHeap} {x15 : Array Value} {x16a : Option Addr} {x16n x16c : Nat} {H2 : AHeap} {x17a : Option Addr} {x17n x17c : Nat} {H3 : AHeap} (h1 : x4 < (↑x0n : Int)) (h2 : callInf cfg 48 [Value.slice x0a x0n x0c, Value.slice (some ⟨List.length H, 0, some (1 * 1)⟩) 1 1] (List.length H0) (H ++ [wo [Value.int .i64 x4] 3]) = some (Value.agg x15, H ++ [wo [Value.int .i64 x4] 3])) (h3 : abuildSlice cfg.P 53 1 [(0, Value.agg x15)] (H ++ [wo [Value.int .i64 x4] 3]) = some (Value.slice x16a x16n x16c, H2)) (h4 : aappend cfg.P (List.length H0) true 53 53 (Value.slice x3a x3n x3c) (Value.slice x16a x16n x16c) H2 = some (Value.slice x17a x17n x17c, H3)) (h5 : Fit .i64 (x4 + 1)) : lpOf cfg a40 0 prot H0 ([.slice x0a x0n x0c, .slice x3a x3n x3c, .int .i64 x4], H) = some (Sum.inl ([Value.slice x0a x0n x0c, Value.slice x17a x17n x17c, Value.int .i64 (x4 + 1)], H3)) :=
  lp_of2 [.e, .e, .b true, .e, .v (.agg x15), .r (.slice x16a x16n x16c) H2, .r (.slice x17a x17n x17c) H3, .e] (ai (decide_eq_true h1) (ai h2 (ai h3 (ai h4 (ai h5 (Eq.refl (Sum.inl ([Value.slice x0a x0n x0c, Value.slice x17a x17n x17c, Value.int .i64 (x4 + 1)], H3) : LS ⊕ LO))))))) (by kernel_rfl)
theorem f40_L0_1 {x0a : Option Addr} {x0n x0c : Nat} {x3a : Option Addr} {x3n x3c : Nat} {x4 : Int} {H0 : AHeap} {prot : Nat} {H : AHeap} (h1 : ¬(x4 < (↑x0n : Int))) : lpOf cfg a40 0 prot H0 ([.slice x0a x0n x0c, .slice x3a x3n x3c, .int .i64 x4], H) = some (Sum.inr (Ex.exit 0, [Value.slice x3a x3n x3c], H)) :=
  lp_of2 [.e, .e, .b false] (ai (decide_eq_false h1) (Eq.refl (Sum.inr (Ex.exit 0, [Value.slice x3a x3n x3c], H) : LS ⊕ LO))) (by kernel_rfl)
end Go.Proofs.YtkemihfaohkoeaaDoor.Am11d
set_option linter.unusedVariables false
open Go Go.Proofs.YtkemihfaohkoeaaDoor.Am
namespace Go.Proofs.YtkemihfaohkoeaaDoor.Am11d
theorem f41_F_0 {x0a : Option Addr} {x0n x0c : Nat} {H : AHeap} {prot : Nat} {z4a : Option Addr} {z4n z4c : Nat} {z5 : Int} {H1 : AHeap} (rv : Value) (rH : AHeap) (h1 : lpInf (lpOf cfg a41 0 prot H) ([Value.slice x0a x0n x0c, Value.slice none 0 0, Value.int .i64 0, Value.int .i64 0], H) = some (Ex.exit 0, [Value.slice z4a z4n z4c, Value.int .i64 z5], H1)) (h2 : pfin a41 H [Value.slice z4a z4n z4c, Value.int .i64 z5] H1 = (rv, rH)) : callInf cfg 41 [.slice x0a x0n x0c] prot H = some (rv, rH) :=
  fn_of2 a41 [.lo (.exit 0, [.slice z4a z4n z4c, .int .i64 z5], H1)] (ai h1 h2) (by kernel_rfl) rfl
theorem f41_L0_0 {x0a : Option Addr} {x0n x0c : Nat} {x4a : Option Addr} {x4n x4c : Nat} {x5 x6 : Int} {H0 : AHeap} {prot : Nat} {H : AHeap} {z0a : Option Addr} {z0n z0c : Nat} {z4a : Option Addr} {z4n z4c : Nat} {z5 z6 z7 : Int} {H2 : AHeap} {x50a : Option Addr} {x50n x50c : Nat} {H3 : AHeap} (h1 : x6 < (↑x0n : Int)) (h2 : lpInf (lpOf cfg a41 1 prot H0) ([Value.slice x0a x0n x0c, Value.slice x4a x4n x4c, Value.int .i64 x5, Value.int .i64 x6, Value.int .i64 (-1), Value.int .i64 0], H) = some (Ex.exit 2, [Value.slice z0a z0n z0c, Value.slice z4a z4n z4c, Value.int .i64 z5, Value.int .i64 z6, Value.int .i64 z7], H2)) (h3 : z7 < 0) (h4 : Fit .i64 (z5 + 1)) (h5 : aappend cfg.P (List.length H0) true 24 24 (Value.slice z4a z4n z4c) (Value.slice (some ⟨List.length H2, 0, some (1 * 1)⟩) 1 1) (H2 ++ [wo [Value.int .i64 z5] 3]) = some (Value.slice x50a x50n x50c, H3)) (h6 : Fit .i64 (z6 + 1)) : lpOf cfg a41 0 prot H0 ([.slice x0a x0n x0c, .slice x4a x4n x4c, .int .i64 x5, .int .i64 x6], H) = some (Sum.inl ([Value.slice z0a z0n z0c, Value.slice x50a x50n x50c, Value.int .i64 (z5 + 1), Value.int .i64 (z6 + 1)], H3)) :=
  lp_of2 [.e, .e, .b true, .lo (.exit 2, [.slice z0a z0n z0c, .slice z4a z4n z4c, .int .i64 z5, .int .i64 z6, .int .i64 z7], H2), .e, .b true, .e, .e, .r (.slice x50a x50n x50c) H3, .e] (ai (decide_eq_true h1) (ai h2 (ai (decide_eq_true h3) (ai h4 (ai h5 (ai h6 (Eq.refl (Sum.inl ([Value.slice z0a z0n z0c, Value.slice x50a x50n x50c, Value.int .i64 (z5 + 1), Value.int .i64 (z6 + 1)], H3) : LS ⊕ LO)))))))) (by kernel_rfl)
theorem f41_L0_1 {x0a : Option Addr} {x0n x0c : Nat} {x4a : Option Addr} {x4n x4c : Nat} {x5 x6 : Int} {H0 : AHeap} {prot : Nat} {H : AHeap} {z0a : Option Addr} {z0n z0c : Nat} {z4a : Option Addr} {z4n z4c : Nat} {z5 z6 z7 : Int} {H2 : AHeap} {x50a : Option Addr} {x50n x50c : Nat} {H3 : AHeap} (h1 : x6 < (↑x0n : Int)) (h2 : lpInf (lpOf cfg a41 1 prot H0) ([Value.slice x0a x0n x0c, Value.slice x4a x4n x4c, Value.int .i64 x5, Value.int .i64 x6, Value.int .i64 (-1), Value.int .i64 0], H) = some (Ex.exit 2, [Value.slice z0a z0n z0c, Value.slice z4a z4n z4c, Value.int .i64 z5, Value.int .i64 z6, Value.int .i64 z7], H2)) (h3 : ¬(z7 < 0)) (h4 : aappend cfg.P (List.length H0) true 24 24 (Value.slice z4a z4n z4c) (Value.slice (some ⟨List.length H2, 0, some (1 * 1)⟩) 1 1) (H2 ++ [wo [Value.int .i64 z7] 3]) = some (Value.slice x50a x50n x50c, H3)) (h5 : Fit .i64 (z6 + 1)) : lpOf cfg a41 0 prot H0 ([.slice x0a x0n x0c, .slice x4a x4n x4c, .int .i64 x5, .int .i64 x6], H) = some (Sum.inl ([Value.slice z0a z0n z0c, Value.slice x50a x50n x50c, Value.int .i64 z5, Value.int .i64 (z6 + 1)], H3)) :=
  lp_of2 [.e, .e, .b true, .lo (.exit 2, [.slice z0a z0n z0c, .slice z4a z4n z4c, .int .i64 z5, .int .i64 z6, .int .i64 z7], H2), .e, .b false, .e, .r (.slice x50a x50n x50c) H3, .e] (ai (decide_eq_true h1) (ai h2 (ai (decide_eq_false h3) (ai h4 (ai h5 (Eq.refl (Sum.inl ([Value.slice z0a z0n z0c, Value.slice x50a x50n x50c, Value.int .i64 z5, Value.int .i64 (z6 + 1)], H3) : LS ⊕ LO))))))) (by kernel_rfl)
theorem f41_L0_2 {x0a : Option Addr} {x0n x0c : Nat} {x4a : Option Addr} {x4n x4c : Nat} {x5 x6 : Int} {H0 : AHeap} {prot : Nat} {H : AHeap} (h1 : ¬(x6 < (↑x0n : Int))) : lpOf cfg a41 0 prot H0 ([.slice x0a x0n x0c, .slice x4a x4n x4c, .int .i64 x5, .int .i64 x6], H) = some (Sum.inr (Ex.exit 0, [Value.slice x4a x4n x4c, Value.int .i64 x5], H)) :=
  lp_of2 [.e, .e, .b false] (ai (decide_eq_false h1) (Eq.refl (Sum.inr (Ex.exit 0, [Value.slice x4a x4n x4c, Value.int .i64 x5], H) : LS ⊕ LO))) (by kernel_rfl)
theorem f41_L1_0 {x0a : Option Addr} {x0n x0c : Nat} {x4a : Option Addr} {x4n x4c : Nat} {x5 x6 x7 x8 : Int} {H0 : AHeap} {prot : Nat} {H : AHeap} {x26p x26o x26l : Nat} {x27 : Array Value} {x29 : Bool} {x33p x33o x33l : Nat} {x34 : Array Value} {x36 : Bool} {x40p x40o x40l : Nat} {x41 : Int} (h1 : x8 < x6) (h2 : x7 < 0) (h3 : aindexAddr cfg.P 53 (Value.slice x0a x0n x0c) (Value.int .i64 x6) = some (Value.pointer (some ⟨x26p, x26o, some x26l⟩))) (h4 : getCells H x26p x26l x26o 8 = some x27.toList) (h5 : callInf cfg 20 [Value.agg x27, Value.int .i64 x8] (List.length H0) H = some (Value.bool x29, H)) (h6 : x29 = true) (h7 : aindexAddr cfg.P 53 (Value.slice x0a x0n x0c) (Value.int .i64 x8) = some (Value.pointer (some ⟨x33p, x33o, some x33l⟩))) (h8 : getCells H x33p x33l x33o 8 = some x34.toList) (h9 : callInf cfg 20 [Value.agg x34, Value.int .i64 x6] (List.length H0) H = some (Value.bool x36, H)) (h10 : x36 = true) (h11 : aindexAddr cfg.P 24 (Value.slice x4a x4n x4c) (Value.int .i64 x8) = some (Value.pointer (some ⟨x40p, x40o, some x40l⟩))) (h12 : getCells H x40p x40l x40o 1 = some [Value.int .i64 x41]) (h13 : Fit .i64 (x8 + 1)) : lpOf cfg a41 1 prot H0 ([.slice x0a x0n x0c, .slice x4a x4n x4c, .int .i64 x5, .int .i64 x6, .int .i64 x7, .int .i64 x8], H) = some (Sum.inl ([Value.slice x0a x0n x0c, Value.slice x4a x4n x4c, Value.int .i64 x5, Value.int .i64 x6, Value.int .i64 x41, Value.int .i64 (x8 + 1)], H)) :=
  lp_of2 [.e, .b true, .b true, .e, .b true, .b true, .v (.pointer (some ⟨x26p, x26o, some x26l⟩)), .v (.agg x27), .v (.bool x29), .b true, .b true, .b true, .v (.pointer (some ⟨x33p, x33o, some x33l⟩)), .b true, .v (.agg x34), .b true, .b true, .v (.bool x36), .b true, .b true, .v (.pointer (some ⟨x40p, x40o, some x40l⟩)), .v (.int .i64 x41), .e] (ai (decide_eq_true h1) (ai (decide_eq_true h1) (ai (decide_eq_true h1) (ai (decide_eq_true h2) (ai h3 (ai h4 (ai h5 (ai h6 (ai h6 (ai h6 (ai h7 (ai h6 (ai h8 (ai h6 (ai h6 (ai h9 (ai h6 (ai h10 (ai h11 (ai h12 (ai h13 (Eq.refl (Sum.inl ([Value.slice x0a x0n x0c, Value.slice x4a x4n x4c, Value.int .i64 x5, Value.int .i64 x6, Value.int .i64 x41, Value.int .i64 (x8 + 1)], H) : LS ⊕ LO))))))))))))))))))))))) (by kernel_rfl)
theorem f41_L1_1 {x0a : Option Addr} {x0n x0c : Nat} {x4a : Option Addr} {x4n x4c : Nat} {x5 x6 x7 x8 : Int} {H0 : AHeap} {prot : Nat} {H : AHeap} {x26p x26o x26l : Nat} {x27 : Array Value} {x29 : Bool} {x33p x33o x33l : Nat} {x34 : Array Value} {x36 : Bool} (h1 : x8 < x6) (h2 : x7 < 0) (h3 : aindexAddr cfg.P 53 (Value.slice x0a x0n x0c) (Value.int .i64 x6) = some (Value.pointer (some ⟨x26p, x26o, some x26l⟩))) (h4 : getCells H x26p x26l x26o 8 = some x27.toList) (h5 : callInf cfg 20 [Value.agg x27, Value.int .i64 x8] (List.length H0) H = some (Value.bool x29, H)) (h6 : x29 = true) (h7 : aindexAddr cfg.P 53 (Value.slice x0a x0n x0c) (Value.int .i64 x8) = some (Value.pointer (some ⟨x33p, x33o, some x33l⟩))) (h8 : getCells H x33p x33l x33o 8 = some x34.toList) (h9 : callInf cfg 20 [Value.agg x34, Value.int .i64 x6] (List.length H0) H = some (Value.bool x36, H)) (h10 : x36 = false) (h11 : Fit .i64 (x8 + 1)) : lpOf cfg a41 1 prot H0 ([.slice x0a x0n x0c, .slice x4a x4n x4c, .int .i64 x5, .int .i64 x6, .int .i64 x7, .int .i64 x8], H) = some (Sum.inl ([Value.slice x0a x0n x0c, Value.slice x4a x4n x4c, Value.int .i64 x5, Value.int .i64 x6, Value.int .i64 x7, Value.int .i64 (x8 + 1)], H)) :=
  lp_of2 [.e, .b true, .b true, .e, .b true, .b true, .v (.pointer (some ⟨x26p, x26o, some x26l⟩)), .v (.agg x27), .v (.bool x29), .b true, .b true, .b true, .v (.pointer (some ⟨x33p, x33o, some x33l⟩)), .b true, .v (.agg x34), .b true, .b true, .v (.bool x36), .b true, .b false, .e] (ai (decide_eq_true h1) (ai (decide_eq_true h1) (ai (decide_eq_true h1) (ai (decide_eq_true h2) (ai h3 (ai h4 (ai h5 (ai h6 (ai h6 (ai h6 (ai h7 (ai h6 (ai h8 (ai h6 (ai h6 (ai h9 (ai h6 (ai h10 (ai h11 (Eq.refl (Sum.inl ([Value.slice x0a x0n x0c, Value.slice x4a x4n x4c, Value.int .i64 x5, Value.int .i64 x6, Value.int .i64 x7, Value.int .i64 (x8 + 1)], H) : LS ⊕ LO))))))))))))))))))))) (by kernel_rfl)
theorem f41_L1_2 {x0a : Option Addr} {x0n x0c : Nat} {x4a : Option Addr} {x4n x4c : Nat} {x5 x6 x7 x8 : Int} {H0 : AHeap} {prot : Nat} {H : AHeap} {x26p x26o x26l : Nat} {x27 : Array Value} {x29 : Bool} (h1 : x8 < x6) (h2 : x7 < 0) (h3 : aindexAddr cfg.P 53 (Value.slice x0a x0n x0c) (Value.int .i64 x6) = some (Value.pointer (some ⟨x26p, x26o, some x26l⟩))) (h4 : getCells H x26p x26l x26o 8 = some x27.toList) (h5 : callInf cfg 20 [Value.agg x27, Value.int .i64 x8] (List.length H0) H = some (Value.bool x29, H)) (h6 : x29 = false) (h7 : Fit .i64 (x8 + 1)) : lpOf cfg a41 1 prot H0 ([.slice x0a x0n x0c, .slice x4a x4n x4c, .int .i64 x5, .int .i64 x6, .int .i64 x7, .int .i64 x8], H) = some (Sum.inl ([Value.slice x0a x0n x0c, Value.slice x4a x4n x4c, Value.int .i64 x5, Value.int .i64 x6, Value.int .i64 x7, Value.int .i64 (x8 + 1)], H)) :=
  lp_of2 [.e, .b true, .b true, .e, .b true, .b true, .v (.pointer (some ⟨x26p, x26o, some x26l⟩)), .v (.agg x27), .v (.bool x29), .b false, .b false, .b false, .b false, .b false, .b false, .b false, .b false, .e] (ai (decide_eq_true h1) (ai (decide_eq_true h1) (ai (decide_eq_true h1) (ai (decide_eq_true h2) (ai h3 (ai h4 (ai h5 (ai h6 (ai h6 (ai h6 (ai h6 (ai h6 (ai h6 (ai h6 (ai (Eq.refl false) (ai h7 (Eq.refl (Sum.inl ([Value.slice x0a x0n x0c, Value.slice x4a x4n x4c, Value.int .i64 x5, Value.int .i64 x6, Value.int .i64 x7, Value.int .i64 (x8 + 1)], H) : LS ⊕ LO)))))))))))))))))) (by kernel_rfl)
theorem f41_L1_3 {x0a : Option Addr} {x0n x0c : Nat} {x4a : Option Addr} {x4n x4c : Nat} {x5 x6 x7 x8 : Int} {H0 : AHeap} {prot : Nat} {H : AHeap} (h1 : x8 < x6) (h2 : ¬(x7 < 0)) : lpOf cfg a41 1 prot H0 ([.slice x0a x0n x0c, .slice x4a x4n x4c, .int .i64 x5, .int .i64 x6, .int .i64 x7, .int .i64 x8], H) = some (Sum.inr (Ex.exit 2, [Value.slice x0a x0n x0c, Value.slice x4a x4n x4c, Value.int .i64 x5, Value.int .i64 x6, Value.int .i64 x7], H)) :=
  lp_of2 [.e, .b true, .b true, .e, .b true, .b false] (ai (decide_eq_true h1) (ai (decide_eq_true h1) (ai (decide_eq_true h1) (ai (decide_eq_false h2) (Eq.refl (Sum.inr (Ex.exit 2, [Value.slice x0a x0n x0c, Value.slice x4a x4n x4c, Value.int .i64 x5, Value.int .i64 x6, Value.int .i64 x7], H) : LS ⊕ LO)))))) (by kernel_rfl)
theorem f41_L1_4 {x0a : Option Addr} {x0n x0c : Nat} {x4a : Option Addr} {x4n x4c : Nat} {x5 x6 x7 x8 : Int} {H0 : AHeap} {prot : Nat} {H : AHeap} (h1 : ¬(x8 < x6)) : lpOf cfg a41 1 prot H0 ([.slice x0a x0n x0c, .slice x4a x4n x4c, .int .i64 x5, .int .i64 x6, .int .i64 x7, .int .i64 x8], H) = some (Sum.inr (Ex.exit 2, [Value.slice x0a x0n x0c, Value.slice x4a x4n x4c, Value.int .i64 x5, Value.int .i64 x6, Value.int .i64 x7], H)) :=
  lp_of2 [.e, .b false, .b false, .b false, .b false] (ai (decide_eq_false h1) (ai (decide_eq_false h1) (ai (decide_eq_false h1) (ai (Eq.refl false) (Eq.refl (Sum.inr (Ex.exit 2, [Value.slice x0a x0n x0c, Value.slice x4a x4n x4c, Value.int .i64 x5, Value.int .i64 x6, Value.int .i64 x7], H) : LS ⊕ LO)))))) (by kernel_rfl)
end Go.Proofs.YtkemihfaohkoeaaDoor.Am11d
namespace Go.Proofs.YtkemihfaohkoeaaDoor.Am11d
open Go Go.Proofs.YtkemihfaohkoeaaDoor.Am
theorem abuild46 (H : AHeap) (S : Nat → Bool) : abuildSlice cfg.P 53 1 [(0, .agg (setA S))] H = some (.slice (some ⟨H.length, 0, some (1 * 8)⟩) 1 1, H ++ [.cells (setL S) 46 (setL S).length .row]) := by
  unfold abuildSlice
  rw [T46.sl, Option.bind_some, T46.sz, Option.bind_some, if_neg (by omega), if_neg (by omega)]
  have hz : tzero cfg.P 46 = some (.agg ((List.replicate 8 (.int .u64 0)).toArray)) := z39
  rw [hz, Option.bind_some]
  have hc : cellsOf (.agg ((List.replicate 8 (Value.int .u64 0)).toArray)) = List.replicate 8 (.int .u64 0) := rfl
  rw [hc, if_pos (by exact ⟨rfl, rfl⟩)]
  have hf : afill (fun i => some (i * 8, 8)) (repCells (List.replicate 8 (.int .u64 0)) 1) [(0, .agg (setA S))] = some (setL S) := by
    have hr : repCells (List.replicate 8 (Value.int .u64 0)) 1 = List.replicate 8 (.int .u64 0) := by simp [repCells]
    rw [hr]
    unfold afill
    have hl := setL_len S
    have hcs : cellsOf (.agg (setA S)) = setL S := rfl
    simp [hcs, hl, putList, setL_cell, afill]
  rw [hf]
  rfl
theorem sets_snoc (A : Nat → Nat → Bool) (n : Nat) : sets A n ++ setL (A n) = sets A (n + 1) := (sets_succ A n).symm
theorem loop42 {G : List (List Int)} (hG : Good G) {x0 : Value} {H0 : AHeap} (hg : Gr H0 x0 G) {prot : Nat} : ∀ (d i : Nat) (x3 : Value) (o : Option Nat) (H : AHeap), i + d = G.length → Stay none H0 H → Own H 46 8 x3 o i (sets (rs G) i) → (∀ id, o = some id → H0.length ≤ id) →
    ∃ x' o' H', lpInf (lpOf cfg a40 0 prot H0) ([x0, x3, .int .i64 i], H) = some (.exit 0, [x'], H') ∧ Own H' 46 8 x' o' G.length (sets (rs G) G.length) ∧ (∀ id, o' = some id → H0.length ≤ id) ∧ Stay none H0 H'
  | 0, i, x3, o, H, hi, hst, hx, ho => by
    have he : i = G.length := by omega
    subst he
    refine ⟨x3, o, H, ?_, hx, ho, hst⟩
    obtain ⟨_, _, rfl⟩ := hg.len
    obtain ⟨_, _, rfl⟩ := hx.len
    exact lp_last (f40_L0_1 (by omega))
  | d + 1, i, x3, o, H, hi, hst, hx, ho => by
    have h5 := hG.1
    have hil : i < G.length := by omega
    obtain ⟨HB, hHB⟩ : ∃ HB, HB = H ++ [wo [.int .i64 (i : Int)] 3] := ⟨_, rfl⟩
    have sB : Stay none H HB := by rw [hHB]; exact Stay.app none H _
    have hrow : Rd HB 3 1 (.slice (some ⟨H.length, 0, some (1 * 1)⟩) 1 1) [i].length (il (nl [i])) := by rw [hHB]; exact (own_new rfl (by omega) rfl rfl).rd
    have h44 := c44 hG (F := [i]) (fun f hf => by rw [List.mem_singleton.1 hf]; exact hil) (by simp) H0.length (hg.stay (hst.trans sB)) hrow
    rw [rfS_one, hHB] at h44
    have hb := abuild46 HB (rs G i)
    have hxB := hx.stay sB (fun id _ e => by cases e)
    have hl0 := (hst.trans sB).1
    obtain ⟨a', c', o', H3, q1, q2, q3, q4, q5, q6⟩ := own_app T46 hxB (ecs := setL (rs G i)) (setL_len _) (setL_cell _) (prot := H0.length) (room := true) ho hl0 (by omega) (L := 1 * 8) rfl (el := (setL (rs G i)).length) rfl
    rw [sets_snoc] at q2
    have hst3 : Stay none H0 H3 := (hst.trans sB).over q3 ho
    obtain ⟨x', o2, H', z1, z2⟩ := loop42 hG hg (prot := prot) d (i + 1) _ (some o') H3 (by omega) hst3 q2 (fun id e => by cases e; exact q4)
    refine ⟨x', o2, H', ?_, z2⟩
    rw [hHB] at hb q1
    obtain ⟨_, _, rfl⟩ := hg.len
    obtain ⟨_, _, rfl⟩ := hx.len
    exact lp_next (f40_L0_0 (by omega) h44 hb q1 (fit64 (by omega) (by omega))) z1
theorem c42 {G : List (List Int)} (hG : Good G) {x0 : Value} (prot : Nat) {H : AHeap} (hg : Gr H x0 G) : ∃ x' H', callInf cfg 40 [x0] prot H = some (x', H') ∧ OwnS H' 46 8 x' G.length (sets (rs G) G.length) H.length ∧ Stay none H H' := by
  obtain ⟨x1, o1, H1, z1, z2, z3, z4⟩ := loop42 hG hg (prot := prot) G.length 0 (.slice none 0 0) none H (by omega) (Stay.refl _ _) own_nil (fun id h => by cases h)
  obtain ⟨x', H', g1, g2, g3⟩ := gcS (.inl ⟨o1, z2, z3⟩) (sets_plain _ _) (ps := []) rfl
  refine ⟨x', H', ?_, g2, g3⟩
  obtain ⟨_, _, rfl⟩ := hg.len
  obtain ⟨_, _, rfl⟩ := z2.len
  exact f40_F_0 _ _ z1 (by rw [pfin_eq, if_neg (by simp [a40])]; exact g1)

/-! ### Numbers -/
theorem sets_rdP {H : AHeap} {x : Value} {n : Nat} {A : Nat → Nat → Bool} (h : Rd H 46 8 x n (sets A n)) {k : Nat} (hk : k < n) :
    ∃ id L, aindexAddr cfg.P 53 x (.int .i64 (k : Nat)) = some (.pointer (some ⟨id, k * 8, some L⟩)) ∧ getCells H id L (k * 8) 8 = some (setA (A k)).toList := by
  obtain ⟨id, L, a, b⟩ := rd_atS T46 h hk
  have := b 0 8 (Nat.le_refl _)
  rw [Nat.add_zero, sets_get A n hk] at this
  exact ⟨id, L, a, this⟩
theorem loop41i {G : List (List Int)} (h5 : G.length ≤ 512) {x0 x4 : Value} {H0 H : AHeap} {prot : Nat} (h0 : Rd H 46 8 x0 G.length (sets (rs G) G.length)) {out : List Nat} {v : Nat} (hv : v < G.length) (hl : out.length = v) (h4 : Rd H 3 1 x4 v (il (nl out))) {n : Int} : ∀ (d u : Nat), u + d = v →
    lpInf (lpOf cfg a41 1 prot H0) ([x0, x4, .int .i64 n, .int .i64 v, .int .i64 (-1), .int .i64 u], H) = some (.exit 2, [x0, x4, .int .i64 n, .int .i64 v, .int .i64 (match findM (mu G v) d u with | some w => ((out.getD w 0 : Nat) : Int) | none => -1)], H)
  | 0, u, hu => by
    obtain ⟨_, _, rfl⟩ := h0.len
    obtain ⟨_, _, rfl⟩ := h4.len
    exact lp_last (f41_L1_4 (by omega))
  | d + 1, u, hu => by
    have hul : u < v := by omega
    obtain ⟨i1, L1, p1, q1⟩ := sets_rdP h0 hv
    obtain ⟨i2, L2, p2, q2⟩ := sets_rdP h0 (show u < G.length by omega)
    have c1 := c20 (S := rs G v) (show u < 512 by omega) H0.length H
    have c2 := c20 (S := rs G u) (show v < 512 by omega) H0.length H
    have fi : Fit .i64 ((u : Int) + 1) := fit64 (by omega) (by omega)
    have hvu : rs G v u = true ↔ Rch G v u := by
      rw [rs_iff]
      refine ⟨fun h => ?_, .inr⟩
      rcases h with h | h
      · omega
      · exact h
    have huv : rs G u v = true ↔ Rch G u v := by
      rw [rs_iff]
      refine ⟨fun h => ?_, .inr⟩
      rcases h with h | h
      · omega
      · exact h
    rw [findM]
    cases e1 : rs G v u with
    | false =>
      have hm : mu G v u = false := by
        rw [Bool.eq_false_iff]; intro h
        have := hvu.2 (mu_iff.1 h).1
        rw [e1] at this; cases this
      rw [hm, if_neg (by simp)]
      rw [e1] at c1
      have ih := loop41i h5 h0 hv hl h4 (n := n) (H0 := H0) (prot := prot) d (u + 1) (by omega)
      obtain ⟨_, _, rfl⟩ := h0.len
      obtain ⟨_, _, rfl⟩ := h4.len
      exact lp_next (f41_L1_2 (x27 := setA (rs G v)) (by omega) (by omega) p1 q1 c1 rfl fi) ih
    | true =>
      rw [e1] at c1
      cases e2 : rs G u v with
      | false =>
        have hm : mu G v u = false := by
          rw [Bool.eq_false_iff]; intro h
          have := huv.2 (mu_iff.1 h).2
          rw [e2] at this; cases this
        rw [hm, if_neg (by simp)]
        rw [e2] at c2
        have ih := loop41i h5 h0 hv hl h4 (n := n) (H0 := H0) (prot := prot) d (u + 1) (by omega)
        obtain ⟨_, _, rfl⟩ := h0.len
        obtain ⟨_, _, rfl⟩ := h4.len
        exact lp_next (f41_L1_1 (x27 := setA (rs G v)) (x34 := setA (rs G u)) (by omega) (by omega) p1 q1 c1 rfl p2 q2 c2 rfl fi) ih
      | true =>
        have hm : mu G v u = true := mu_iff.2 ⟨hvu.1 e1, huv.1 e2⟩
        rw [hm, if_pos rfl]
        rw [e2] at c2
        have hget : (il (nl out))[u]? = some (.int .i64 ((out.getD u 0 : Nat) : Int)) := by
          unfold il nl
          rw [List.getElem?_map, List.getElem?_map, List.getElem?_eq_getElem (by omega), List.getD_eq_getElem?_getD, List.getElem?_eq_getElem (by omega)]
          rfl
        obtain ⟨i3, L3, p3, q3⟩ := rd_at T34 h4 hget
        obtain ⟨_, _, rfl⟩ := h0.len
        obtain ⟨_, _, rfl⟩ := h4.len
        refine lp_next (f41_L1_0 (x27 := setA (rs G v)) (x34 := setA (rs G u)) (by omega) (by omega) p1 q1 c1 rfl p2 q2 c2 rfl p3 q3 fi) ?_
        by_cases he : u + 1 < v
        · exact lp_last (f41_L1_3 (by omega) (by omega))
        · exact lp_last (f41_L1_4 (by omega))
theorem loop41 {G : List (List Int)} (h5 : G.length ≤ 512) {x0 : Value} {H0 : AHeap} {prot : Nat} (h0 : Rd H0 46 8 x0 G.length (sets (rs G) G.length)) : ∀ (d v : Nat) (out : List Nat) (n : Nat) (x4 : Value) (o : Option Nat) (H : AHeap), v + d = G.length → out.length = v → n ≤ v → Stay none H0 H → Own H 3 1 x4 o v (il (nl out)) → (∀ id, o = some id → H0.length ≤ id) →
    ∃ x' o' H', lpInf (lpOf cfg a41 0 prot H0) ([x0, x4, .int .i64 n, .int .i64 v], H) = some (.exit 0, [x', .int .i64 (numR G d v out n).2], H') ∧ Own H' 3 1 x' o' G.length (il (nl (numR G d v out n).1)) ∧ (∀ id, o' = some id → H0.length ≤ id) ∧ Stay none H0 H'
  | 0, v, out, n, x4, o, H, hv, hl, hn, hst, hx, ho => by
    have he : v = G.length := by omega
    subst he
    refine ⟨x4, o, H, ?_, hx, ho, hst⟩
    obtain ⟨_, _, rfl⟩ := h0.len
    obtain ⟨_, _, rfl⟩ := hx.len
    exact lp_last (f41_L0_2 (by omega))
  | d + 1, v, out, n, x4, o, H, hv, hl, hn, hst, hx, ho => by
    have hvl : v < G.length := by omega
    have hi := loop41i h5 (h0.stay hst) (H0 := H0) (prot := prot) hvl hl hx.rd (n := (n : Int)) v 0 (by omega)
    have hl0 := hst.1
    have app := fun c : Nat => own_app T34 hx (ecs := [.int .i64 (c : Int)]) rfl rfl (prot := H0.length) (room := true) ho hl0 (by omega) (L := 1 * 1) rfl (el := [Value.int .i64 (c : Int)].length) rfl
    rw [numR]
    cases hf : findM (mu G v) v 0 with
    | some u =>
      rw [hf] at hi
      simp only at hi
      obtain ⟨a', c', o', H3, q1, q2, q3, q4, q5, q6⟩ := app (out.getD u 0)
      rw [show il (nl out) ++ [Value.int .i64 ((out.getD u 0 : Nat) : Int)] = il (nl (out ++ [out.getD u 0])) by simp [il, nl]] at q2
      obtain ⟨x', o2, H', z1, z2⟩ := loop41 h5 (prot := prot) h0 d (v + 1) (out ++ [out.getD u 0]) n _ (some o') H3 (by omega) (by simp [hl]) (by omega) (hst.over q3 ho) q2 (fun id e => by cases e; exact q4)
      refine ⟨x', o2, H', ?_, z2⟩
      obtain ⟨_, _, rfl⟩ := h0.len
      obtain ⟨_, _, rfl⟩ := hx.len
      exact lp_next (f41_L0_1 (by omega) hi (by omega) q1 (fit64 (by omega) (by omega))) z1
    | none =>
      rw [hf] at hi
      simp only at hi
      obtain ⟨a', c', o', H3, q1, q2, q3, q4, q5, q6⟩ := app n
      rw [show il (nl out) ++ [Value.int .i64 ((n : Nat) : Int)] = il (nl (out ++ [n])) by simp [il, nl]] at q2
      obtain ⟨x', o2, H', z1, z2⟩ := loop41 h5 (prot := prot) h0 d (v + 1) (out ++ [n]) (n + 1) _ (some o') H3 (by omega) (by simp [hl]) (by omega) (hst.over q3 ho) q2 (fun id e => by cases e; exact q4)
      refine ⟨x', o2, H', ?_, z2⟩
      obtain ⟨_, _, rfl⟩ := h0.len
      obtain ⟨_, _, rfl⟩ := hx.len
      exact lp_next (f41_L0_0 (by omega) hi (by omega) (fit64 (by omega) (by omega)) q1 (fit64 (by omega) (by omega))) z1
theorem c41 {G : List (List Int)} (h5 : G.length ≤ 512) {x0 : Value} (prot : Nat) {H : AHeap} (h0 : Rd H 46 8 x0 G.length (sets (rs G) G.length)) :
    ∃ x' H', callInf cfg 41 [x0] prot H = some (.tuple #[x', .int .i64 (comp G).2], H') ∧ OwnE H' 3 x' G.length (il (nl (comp G).1)) H.length ∧ Stay none H H' := by
  obtain ⟨x1, o1, H1, z1, z2, z3, z4⟩ := loop41 h5 (prot := prot) h0 G.length 0 [] 0 (.slice none 0 0) none H (by omega) rfl (Nat.le_refl _) (Stay.refl _ _) own_nil (fun id h => by cases h)
  obtain ⟨x', H', g1, g2, g3⟩ := gcE (H := H) (.inl ⟨o1, z2, z3⟩) (il_plain _) (ps := [.int .i64 ((comp G).2 : Nat)]) rfl
  refine ⟨x', H', ?_, g2, g3⟩
  obtain ⟨_, _, rfl⟩ := h0.len
  obtain ⟨_, _, rfl⟩ := z2.len
  exact f41_F_0 _ _ z1 (by rw [pfin_eq, if_neg (by simp [a41])]; exact g1)
end Go.Proofs.YtkemihfaohkoeaaDoor.Am11d
set_option linter.unusedVariables false
open Go Go.Proofs.YtkemihfaohkoeaaDoor.Am
namespace Go.Proofs.YtkemihfaohkoeaaDoor.Am11d
theorem f30_F_0 {x0a : Option Addr} {x0n x0c : Nat} {H : AHeap} {prot : Nat} {x12 : Int} (h1 : callInf cfg 27 [Value.slice x0a x0n x0c] (List.length H) H = some (Value.int .i64 x12, H)) (h2 : (x12 != 0) = true) : callInf cfg 30 [.slice x0a x0n x0c] prot H = some (Value.tuple { toList := [Value.slice none 0 0, Value.int .i64 x12] }, H) :=
  fn_of2 a30 [.v (.int .i64 x12), .e, .b true] (ai h1 (ai h2 (Eq.refl ((Value.tuple { toList := [Value.slice none 0 0, Value.int .i64 x12] }, H) : Value × AHeap)))) (by kernel_rfl) rfl
theorem f30_F_1 {x0a : Option Addr} {x0n x0c : Nat} {H : AHeap} {prot : Nat} {x12 : Int} {x17a : Option Addr} {x17n x17c : Nat} {H1 : AHeap} {x20aa : Option Addr} {x20an x20ac : Nat} {x20b : Int} {H2 : AHeap} {z8a : Option Addr} {z8n z8c : Nat} {H3 : AHeap} (rv : Value) (rH : AHeap) (h1 : callInf cfg 27 [Value.slice x0a x0n x0c] (List.length H) H = some (Value.int .i64 x12, H)) (h2 : (x12 != 0) = false) (h3 : callInf cfg 40 [Value.slice x0a x0n x0c] (List.length H) H = some (Value.slice x17a x17n x17c, H1)) (h4 : callInf cfg 41 [Value.slice x17a x17n x17c] (List.length H) H1 = some (Value.tuple { toList := [Value.slice x20aa x20an x20ac, Value.int .i64 x20b] }, H2)) (h5 : 0 ≤ x20b) (h6 : x20b = x20b) (h7 : x20b ≤ 9223372036854775807) (h8 : (↑64 : Int) * x20b ≤ 2 ^ 48) (h9 : lpInf (lpOf cfg a30 0 prot H) ([Value.slice x0a x0n x0c, Value.slice x17a x17n x17c, Value.slice x20aa x20an x20ac, Value.slice (some ⟨List.length H2, 0, some (x20b.toNat * 8)⟩) x20b.toNat x20b.toNat, Value.int .i64 0], H2 ++ [AObj.cells (repCells [Value.int .u64 0, Value.int .u64 0, Value.int .u64 0, Value.int .u64 0, Value.int .u64 0, Value.int .u64 0, Value.int .u64 0, Value.int .u64 0] x20b.toNat) 46 (repCells [Value.int .u64 0, Value.int .u64 0, Value.int .u64 0, Value.int .u64 0, Value.int .u64 0, Value.int .u64 0, Value.int .u64 0, Value.int .u64 0] x20b.toNat).length OMode.row]) = some (Ex.exit 0, [Value.slice z8a z8n z8c], H3)) (h10 : pfin a30 H [Value.slice z8a z8n z8c, Value.int .i64 0] H3 = (rv, rH)) : callInf cfg 30 [.slice x0a x0n x0c] prot H = some (rv, rH) :=
  fn_of2 a30 [.v (.int .i64 x12), .e, .b false, .r (.slice x17a x17n x17c) H1, .r (.tuple #[.slice x20aa x20an x20ac, .int .i64 x20b]) H2, .e, .lo (.exit 0, [.slice z8a z8n z8c], H3)] (ai h1 (ai h2 (ai h3 (ai h4 (ai h5 (ai h6 (ai h7 (ai h8 (ai h9 h10))))))))) (by kernel_rfl) rfl
theorem f30_L0_0 {x0a : Option Addr} {x0n x0c : Nat} {x5a : Option Addr} {x5n x5c : Nat} {x6a : Option Addr} {x6n x6c : Nat} {x8a : Option Addr} {x8n x8c : Nat} {x9 : Int} {H0 : AHeap} {prot : Nat} {H : AHeap} {z0a : Option Addr} {z0n z0c : Nat} {z5a : Option Addr} {z5n z5c : Nat} {z6a : Option Addr} {z6n z6c : Nat} {z8a : Option Addr} {z8n z8c : Nat} {z9 : Int} {H2 : AHeap} (h1 : x9 < (↑x0n : Int)) (h2 : lpInf (lpOf cfg a30 1 prot H0) ([Value.slice x0a x0n x0c, Value.slice x5a x5n x5c, Value.slice x6a x6n x6c, Value.slice x8a x8n x8c, Value.int .i64 x9, Value.int .i64 0], H) = some (Ex.exit 2, [Value.slice z0a z0n z0c, Value.slice z5a z5n z5c, Value.slice z6a z6n z6c, Value.slice z8a z8n z8c, Value.int .i64 z9], H2)) (h3 : Fit .i64 (z9 + 1)) : lpOf cfg a30 0 prot H0 ([.slice x0a x0n x0c, .slice x5a x5n x5c, .slice x6a x6n x6c, .slice x8a x8n x8c, .int .i64 x9], H) = some (Sum.inl ([Value.slice z0a z0n z0c, Value.slice z5a z5n z5c, Value.slice z6a z6n z6c, Value.slice z8a z8n z8c, Value.int .i64 (z9 + 1)], H2)) :=
  lp_of2 [.e, .e, .b true, .lo (.exit 2, [.slice z0a z0n z0c, .slice z5a z5n z5c, .slice z6a z6n z6c, .slice z8a z8n z8c, .int .i64 z9], H2), .e] (ai (decide_eq_true h1) (ai h2 (ai h3 (Eq.refl (Sum.inl ([Value.slice z0a z0n z0c, Value.slice z5a z5n z5c, Value.slice z6a z6n z6c, Value.slice z8a z8n z8c, Value.int .i64 (z9 + 1)], H2) : LS ⊕ LO))))) (by kernel_rfl)
theorem f30_L0_1 {x0a : Option Addr} {x0n x0c : Nat} {x5a : Option Addr} {x5n x5c : Nat} {x6a : Option Addr} {x6n x6c : Nat} {x8a : Option Addr} {x8n x8c : Nat} {x9 : Int} {H0 : AHeap} {prot : Nat} {H : AHeap} (h1 : ¬(x9 < (↑x0n : Int))) : lpOf cfg a30 0 prot H0 ([.slice x0a x0n x0c, .slice x5a x5n x5c, .slice x6a x6n x6c, .slice x8a x8n x8c, .int .i64 x9], H) = some (Sum.inr (Ex.exit 0, [Value.slice x8a x8n x8c], H)) :=
  lp_of2 [.e, .e, .b false] (ai (decide_eq_false h1) (Eq.refl (Sum.inr (Ex.exit 0, [Value.slice x8a x8n x8c], H) : LS ⊕ LO))) (by kernel_rfl)
theorem f30_L1_0 {x0a : Option Addr} {x0n x0c : Nat} {x5a : Option Addr} {x5n x5c : Nat} {x6a : Option Addr} {x6n x6c : Nat} {x8a : Option Addr} {x8n x8c : Nat} {x9 x10 : Int} {H0 : AHeap} {prot : Nat} {H : AHeap} {x39p x39o x39l : Nat} {x40 : Array Value} {x42 : Bool} {x46p x46o x46l : Nat} {x47 : Int} {x51p x51o x51l : Nat} {x52 : Int} {x53p x53o x53l : Nat} {x54 : Array Value} {x57p x57o x57l : Nat} {x58 : Int} {x59 : Array Value} {x60p x60o x60l : Nat} {H2 : AHeap} (h1 : x10 < (↑x0n : Int)) (h2 : aindexAddr cfg.P 53 (Value.slice x5a x5n x5c) (Value.int .i64 x9) = some (Value.pointer (some ⟨x39p, x39o, some x39l⟩))) (h3 : getCells H x39p x39l x39o 8 = some x40.toList) (h4 : callInf cfg 20 [Value.agg x40, Value.int .i64 x10] (List.length H0) H = some (Value.bool x42, H)) (h5 : x42 = true) (h6 : aindexAddr cfg.P 24 (Value.slice x6a x6n x6c) (Value.int .i64 x9) = some (Value.pointer (some ⟨x46p, x46o, some x46l⟩))) (h7 : getCells H x46p x46l x46o 1 = some [Value.int .i64 x47]) (h8 : aindexAddr cfg.P 24 (Value.slice x6a x6n x6c) (Value.int .i64 x9) = some (Value.pointer (some ⟨x51p, x51o, some x51l⟩))) (h9 : getCells H x51p x51l x51o 1 = some [Value.int .i64 x52]) (h10 : aindexAddr cfg.P 53 (Value.slice x8a x8n x8c) (Value.int .i64 x52) = some (Value.pointer (some ⟨x53p, x53o, some x53l⟩))) (h11 : getCells H x53p x53l x53o 8 = some x54.toList) (h12 : aindexAddr cfg.P 24 (Value.slice x6a x6n x6c) (Value.int .i64 x10) = some (Value.pointer (some ⟨x57p, x57o, some x57l⟩))) (h13 : getCells H x57p x57l x57o 1 = some [Value.int .i64 x58]) (h14 : callInf cfg 42 [Value.agg x54, Value.int .i64 x58] (List.length H0) H = some (Value.agg x59, H)) (h15 : aindexAddr cfg.P 53 (Value.slice x8a x8n x8c) (Value.int .i64 x47) = some (Value.pointer (some ⟨x60p, x60o, some x60l⟩))) (h16 : x59.toList.length = 8) (h17 : setCells H (List.length H0) x60p x60l x60o x59.toList = some H2) (h18 : Fit .i64 (x10 + 1)) : lpOf cfg a30 1 prot H0 ([.slice x0a x0n x0c, .slice x5a x5n x5c, .slice x6a x6n x6c, .slice x8a x8n x8c, .int .i64 x9, .int .i64 x10], H) = some (Sum.inl ([Value.slice x0a x0n x0c, Value.slice x5a x5n x5c, Value.slice x6a x6n x6c, Value.slice x8a x8n x8c, Value.int .i64 x9, Value.int .i64 (x10 + 1)], H2)) :=
  lp_of2 [.e, .e, .b true, .v (.pointer (some ⟨x39p, x39o, some x39l⟩)), .v (.agg x40), .v (.bool x42), .b true, .v (.pointer (some ⟨x46p, x46o, some x46l⟩)), .v (.int .i64 x47), .v (.pointer (some ⟨x51p, x51o, some x51l⟩)), .v (.int .i64 x52), .v (.pointer (some ⟨x53p, x53o, some x53l⟩)), .v (.agg x54), .v (.pointer (some ⟨x57p, x57o, some x57l⟩)), .v (.int .i64 x58), .v (.agg x59), .v (.pointer (some ⟨x60p, x60o, some x60l⟩)), .h H2, .e] (ai (decide_eq_true h1) (ai h2 (ai h3 (ai h4 (ai h5 (ai h6 (ai h7 (ai h8 (ai h9 (ai h10 (ai h11 (ai h12 (ai h13 (ai h14 (ai h15 (ai h16 (ai h17 (ai h18 (Eq.refl (Sum.inl ([Value.slice x0a x0n x0c, Value.slice x5a x5n x5c, Value.slice x6a x6n x6c, Value.slice x8a x8n x8c, Value.int .i64 x9, Value.int .i64 (x10 + 1)], H2) : LS ⊕ LO)))))))))))))))))))) (by kernel_rfl)
theorem f30_L1_1 {x0a : Option Addr} {x0n x0c : Nat} {x5a : Option Addr} {x5n x5c : Nat} {x6a : Option Addr} {x6n x6c : Nat} {x8a : Option Addr} {x8n x8c : Nat} {x9 x10 : Int} {H0 : AHeap} {prot : Nat} {H : AHeap} {x39p x39o x39l : Nat} {x40 : Array Value} {x42 : Bool} (h1 : x10 < (↑x0n : Int)) (h2 : aindexAddr cfg.P 53 (Value.slice x5a x5n x5c) (Value.int .i64 x9) = some (Value.pointer (some ⟨x39p, x39o, some x39l⟩))) (h3 : getCells H x39p x39l x39o 8 = some x40.toList) (h4 : callInf cfg 20 [Value.agg x40, Value.int .i64 x10] (List.length H0) H = some (Value.bool x42, H)) (h5 : x42 = false) (h6 : Fit .i64 (x10 + 1)) : lpOf cfg a30 1 prot H0 ([.slice x0a x0n x0c, .slice x5a x5n x5c, .slice x6a x6n x6c, .slice x8a x8n x8c, .int .i64 x9, .int .i64 x10], H) = some (Sum.inl ([Value.slice x0a x0n x0c, Value.slice x5a x5n x5c, Value.slice x6a x6n x6c, Value.slice x8a x8n x8c, Value.int .i64 x9, Value.int .i64 (x10 + 1)], H)) :=
  lp_of2 [.e, .e, .b true, .v (.pointer (some ⟨x39p, x39o, some x39l⟩)), .v (.agg x40), .v (.bool x42), .b false, .e] (ai (decide_eq_true h1) (ai h2 (ai h3 (ai h4 (ai h5 (ai h6 (Eq.refl (Sum.inl ([Value.slice x0a x0n x0c, Value.slice x5a x5n x5c, Value.slice x6a x6n x6c, Value.slice x8a x8n x8c, Value.int .i64 x9, Value.int .i64 (x10 + 1)], H) : LS ⊕ LO)))))))) (by kernel_rfl)
theorem f30_L1_2 {x0a : Option Addr} {x0n x0c : Nat} {x5a : Option Addr} {x5n x5c : Nat} {x6a : Option Addr} {x6n x6c : Nat} {x8a : Option Addr} {x8n x8c : Nat} {x9 x10 : Int} {H0 : AHeap} {prot : Nat} {H : AHeap} (h1 : ¬(x10 < (↑x0n : Int))) : lpOf cfg a30 1 prot H0 ([.slice x0a x0n x0c, .slice x5a x5n x5c, .slice x6a x6n x6c, .slice x8a x8n x8c, .int .i64 x9, .int .i64 x10], H) = some (Sum.inr (Ex.exit 2, [Value.slice x0a x0n x0c, Value.slice x5a x5n x5c, Value.slice x6a x6n x6c, Value.slice x8a x8n x8c, Value.int .i64 x9], H)) :=
  lp_of2 [.e, .e, .b false] (ai (decide_eq_false h1) (Eq.refl (Sum.inr (Ex.exit 2, [Value.slice x0a x0n x0c, Value.slice x5a x5n x5c, Value.slice x6a x6n x6c, Value.slice x8a x8n x8c, Value.int .i64 x9], H) : LS ⊕ LO))) (by kernel_rfl)
end Go.Proofs.YtkemihfaohkoeaaDoor.Am11d
namespace Go.Proofs.YtkemihfaohkoeaaDoor.Am11d
open Go Go.Proofs.YtkemihfaohkoeaaDoor.Am
theorem loop24i {G : List (List Int)} (h512 : G.length ≤ 512) {G0 : AHeap} {x0 x5 x6 x8 : Value} (hx0 : ∃ a c, x0 = .slice a G.length c) (h5 : Rd G0 46 8 x5 G.length (sets (rs G) G.length)) (h6 : Rd G0 3 1 x6 G.length (il (nl (comp G).1))) {o : Nat} (ho : G0.length ≤ o) {H0 : AHeap} (hp : H0.length ≤ o) {prot : Nat} {v : Nat} (hv : v < G.length) {B : Nat → Nat → Prop} : ∀ (d i : Nat) (A : Nat → Nat → Bool) (H : AHeap), i + d = G.length → Stay none G0 H → Own H 46 8 x8 (some o) (comp G).2 (sets A (comp G).2) →
    (∀ c e, A c e = true ↔ B c e ∨ (c = Lc G v ∧ ∃ u, u < i ∧ RQ G v u ∧ e = Lc G u)) →
    ∃ A' H', lpInf (lpOf cfg a30 1 prot H0) ([x0, x5, x6, x8, .int .i64 v, .int .i64 i], H) = some (.exit 2, [x0, x5, x6, x8, .int .i64 v], H') ∧ Own H' 46 8 x8 (some o) (comp G).2 (sets A' (comp G).2) ∧
      (∀ c e, A' c e = true ↔ B c e ∨ (c = Lc G v ∧ ∃ u, u < G.length ∧ RQ G v u ∧ e = Lc G u)) ∧ Stay (some o) H H'
  | 0, i, A, H, hi, hst, hx, hA => by
    have he : i = G.length := by omega
    subst he
    refine ⟨A, H, ?_, hx, hA, Stay.refl _ _⟩
    obtain ⟨_, _, rfl⟩ := hx0
    obtain ⟨_, _, rfl⟩ := h5.len
    obtain ⟨_, _, rfl⟩ := h6.len
    obtain ⟨_, _, rfl⟩ := hx.len
    exact lp_last (f30_L1_2 (by omega))
  | d + 1, i, A, H, hi, hst, hx, hA => by
    have hil : i < G.length := by omega
    have hn := comp_n G
    obtain ⟨i1, L1, p1, q1⟩ := sets_rdP (h5.stay hst) hv
    have h20 := c20 (S := rs G v) (show i < 512 by omega) H0.length H
    have fi : Fit .i64 ((i : Int) + 1) := fit64 (by omega) (by omega)
    have hk := Lc_lt hv
    have hk2 := Lc_lt hil
    cases hb : rs G v i with
    | true =>
      have hr : RQ G v i := rs_iff.1 hb
      rw [hb] at h20
      obtain ⟨i2, L2, b1, b2⟩ := rd_at T34 (h6.stay hst) (comp_get hv)
      obtain ⟨i3, L3, c1, c2⟩ := rd_at T34 (h6.stay hst) (comp_get hil)
      obtain ⟨d1, d2⟩ := sets_at hx hk
      have h43 := c43 (S := A (Lc G v)) (show Lc G i < 512 by omega) H0.length H
      obtain ⟨H2, e1, e2, e3⟩ := sets_set hx hk (addS (A (Lc G v)) (Lc G i)) hp
      obtain ⟨A', H', z1, z2, z3, z4⟩ := loop24i h512 hx0 h5 h6 ho hp (prot := prot) hv (B := B) d (i + 1) _ H2 (by omega) (hst.over e3 (fun id e => by cases e; exact ho)) e2 (fun c e => by
        by_cases hc : c = Lc G v
        · subst hc
          rw [if_pos rfl]
          unfold addS
          rw [Bool.or_eq_true, decide_eq_true_eq, hA]
          constructor
          · rintro ((h | ⟨_, u, h1, h2, h3⟩) | h)
            · exact .inl h
            · exact .inr ⟨rfl, u, by omega, h2, h3⟩
            · exact .inr ⟨rfl, i, by omega, hr, h⟩
          · rintro (h | ⟨_, u, h1, h2, h3⟩)
            · exact .inl (.inl h)
            · by_cases e0 : u = i
              · subst e0; exact .inr h3
              · exact .inl (.inr ⟨rfl, u, by omega, h2, h3⟩)
        · rw [if_neg hc, hA]
          simp [hc])
      refine ⟨A', H', ?_, z2, z3, e3.trans z4⟩
      obtain ⟨_, _, rfl⟩ := hx0
      obtain ⟨_, _, rfl⟩ := h5.len
      obtain ⟨_, _, rfl⟩ := h6.len
      obtain ⟨_, _, rfl⟩ := hx.len
      exact lp_next (f30_L1_0 (x40 := setA (rs G v)) (x54 := setA (A (Lc G v))) (x59 := setA (addS (A (Lc G v)) (Lc G i))) (by omega) p1 q1 h20 rfl b1 b2 b1 b2 d1 d2 c1 c2 h43 d1 (setL_len _) e1 fi) z1
    | false =>
      have hr : ¬ RQ G v i := fun h => by have := rs_iff.2 h; rw [hb] at this; cases this
      rw [hb] at h20
      obtain ⟨A', H', z1, z2, z3, z4⟩ := loop24i h512 hx0 h5 h6 ho hp (prot := prot) hv (B := B) d (i + 1) A H (by omega) hst hx (fun c e => by
        rw [hA]
        constructor
        · rintro (h | ⟨h0, u, h1, h2, h3⟩)
          · exact .inl h
          · exact .inr ⟨h0, u, by omega, h2, h3⟩
        · rintro (h | ⟨h0, u, h1, h2, h3⟩)
          · exact .inl h
          · by_cases e0 : u = i
            · subst e0; exact absurd h2 hr
            · exact .inr ⟨h0, u, by omega, h2, h3⟩)
      refine ⟨A', H', ?_, z2, z3, z4⟩
      obtain ⟨_, _, rfl⟩ := hx0
      obtain ⟨_, _, rfl⟩ := h5.len
      obtain ⟨_, _, rfl⟩ := h6.len
      obtain ⟨_, _, rfl⟩ := hx.len
      exact lp_next (f30_L1_1 (x40 := setA (rs G v)) (by omega) p1 q1 h20 rfl fi) z1
theorem loop24o {G : List (List Int)} (h512 : G.length ≤ 512) {G0 : AHeap} {x0 x5 x6 x8 : Value} (hx0 : ∃ a c, x0 = .slice a G.length c) (h5 : Rd G0 46 8 x5 G.length (sets (rs G) G.length)) (h6 : Rd G0 3 1 x6 G.length (il (nl (comp G).1))) {o : Nat} (ho : G0.length ≤ o) {H0 : AHeap} (hp : H0.length ≤ o) {prot : Nat} : ∀ (d v : Nat) (A : Nat → Nat → Bool) (H : AHeap), v + d = G.length → Stay none G0 H → Own H 46 8 x8 (some o) (comp G).2 (sets A (comp G).2) → (∀ c e, A c e = true ↔ AbvTo G v c e) →
    ∃ A' H', lpInf (lpOf cfg a30 0 prot H0) ([x0, x5, x6, x8, .int .i64 v], H) = some (.exit 0, [x8], H') ∧ Own H' 46 8 x8 (some o) (comp G).2 (sets A' (comp G).2) ∧ (∀ c e, A' c e = true ↔ AbvTo G G.length c e) ∧ Stay (some o) H H'
  | 0, v, A, H, hi, hst, hx, hA => by
    have he : v = G.length := by omega
    subst he
    refine ⟨A, H, ?_, hx, hA, Stay.refl _ _⟩
    obtain ⟨_, _, rfl⟩ := hx0
    obtain ⟨_, _, rfl⟩ := h5.len
    obtain ⟨_, _, rfl⟩ := h6.len
    obtain ⟨_, _, rfl⟩ := hx.len
    exact lp_last (f30_L0_1 (by omega))
  | d + 1, v, A, H, hi, hst, hx, hA => by
    have hv : v < G.length := by omega
    obtain ⟨A1, H3, y1, y2, y3, y4⟩ := loop24i h512 hx0 h5 h6 ho hp (prot := prot) hv (B := AbvTo G v) G.length 0 A H (by omega) hst hx (fun c e => by
      rw [hA]; simp)
    obtain ⟨A', H', z1, z2, z3, z4⟩ := loop24o h512 hx0 h5 h6 ho hp (prot := prot) d (v + 1) A1 H3 (by omega) (hst.over y4 (fun id e => by cases e; exact ho)) y2 (fun c e => by
      rw [y3]
      constructor
      · rintro (⟨w, u, h1, h2, h3, h4, h5⟩ | ⟨rfl, u, h1, h2, rfl⟩)
        · exact ⟨w, u, by omega, h2, h3, h4, h5⟩
        · exact ⟨v, u, by omega, h1, rfl, rfl, h2⟩
      · rintro ⟨w, u, h1, h2, h3, h4, h5⟩
        by_cases e0 : w = v
        · subst e0
          exact .inr ⟨h3.symm, u, h2, h5, h4.symm⟩
        · exact .inl ⟨w, u, by omega, h2, h3, h4, h5⟩)
    refine ⟨A', H', ?_, z2, z3, y4.trans z4⟩
    obtain ⟨_, _, rfl⟩ := hx0
    obtain ⟨_, _, rfl⟩ := h5.len
    obtain ⟨_, _, rfl⟩ := h6.len
    obtain ⟨_, _, rfl⟩ := hx.len
    exact lp_next (f30_L0_0 (by omega) y1 (fit64 (by omega) (by omega))) z1

theorem c24 {G : List (List Int)} (hs : Short G) {vG : Value} (prot : Nat) {H : AHeap} (hg : Gr H vG G) :
    (chk G ≠ 0 ∧ callInf cfg 30 [vG] prot H = some (.tuple #[.slice none 0 0, .int .i64 (chk G)], H)) ∨
    (chk G = 0 ∧ ∃ x' H', callInf cfg 30 [vG] prot H = some (.tuple #[x', .int .i64 0], H') ∧ OwnS H' 46 8 x' (comp G).2 (sets (abv G) (comp G).2) H.length ∧ Stay none H H') := by
  have h26 := c26 hs H.length hg
  by_cases h : chk G = 0
  · refine .inr ⟨h, ?_⟩
    have hG := good_of hs h
    have h5 := hG.1
    have hn := comp_n G
    obtain ⟨yy, H1, w1, w2, w3⟩ := c42 hG H.length hg
    obtain ⟨y, H2, n1, n2, n4⟩ := c41 hG.1 H.length w2.rd
    obtain ⟨z8, hz8⟩ : ∃ z8 : List Value, z8 = [.int .u64 0, .int .u64 0, .int .u64 0, .int .u64 0, .int .u64 0, .int .u64 0, .int .u64 0, .int .u64 0] := ⟨_, rfl⟩
    have hz : z8 = List.replicate 8 (.int .u64 0) := by rw [hz8]; rfl
    obtain ⟨H3, hH3⟩ : ∃ H3, H3 = H2 ++ [AObj.cells (repCells z8 (comp G).2) 46 (repCells z8 (comp G).2).length .row] := ⟨_, rfl⟩
    have s3 : Stay none H2 H3 := by rw [hH3]; exact Stay.app none H2 _
    have hlen : H.length ≤ H2.length := Nat.le_trans w3.1 n4.1
    obtain ⟨ax, cx, hye⟩ := n2.rd.len
    obtain ⟨aw, cw, hyw⟩ := w2.rd.len
    have key : ∃ x6 H4, lpInf (lpOf cfg a30 0 prot H) ([vG, yy, y, .slice (some ⟨H2.length, 0, some ((comp G).2 * 8)⟩) (comp G).2 (comp G).2, .int .i64 0], H3) = some (.exit 0, [x6], H4) ∧ OwnS H4 46 8 x6 (comp G).2 (sets (abv G) (comp G).2) H.length := by
      by_cases h0 : 0 < (comp G).2
      · have m : Own H3 46 8 (.slice (some ⟨H2.length, 0, some ((comp G).2 * 8)⟩) (comp G).2 (comp G).2) (some H2.length) (comp G).2 (sets (fun _ => noS) (comp G).2) := by
          rw [sets_no, ← hz, hH3]
          have hl : (repCells z8 (comp G).2).length = (comp G).2 * 8 := by rw [hz, ← sets_no, sets_len]
          exact own_new hl h0 hl.symm rfl
        obtain ⟨A', H4, z1, z2, z3, z4⟩ := loop24o h5 hg.len (w2.rd.stay n4) n2.rd (Nat.le_refl _) (H0 := H) hlen (prot := prot) G.length 0 _ H3 (by omega) s3 m (fun c e => by
          constructor
          · intro h; cases h
          · rintro ⟨w, u, h1, _⟩; omega)
        refine ⟨_, H4, z1, .inl ⟨some H2.length, ?_, fun id e => by cases e; exact hlen⟩⟩
        rw [sets_congr (A := abv G) (B := A') _ (fun c _ i _ => by rw [Bool.eq_iff_iff, abv_iff, z3]; rfl)]
        exact z2
      · have hn0 : (comp G).2 = 0 := by omega
        have hG0 : G = [] := List.eq_nil_of_length_eq_zero (by
          rcases Nat.eq_zero_or_pos G.length with h | h
          · exact h
          · have := Lc_lt h; omega)
        rw [hn0] at hH3 ⊢
        subst hG0
        obtain ⟨aG, cG, rfl⟩ := hg.len
        subst hye; subst hyw
        refine ⟨_, H3, lp_last (f30_L0_1 (by decide)), .inr ⟨rfl, rfl, H2.length, rfl, hlen, ?_⟩⟩
        rw [hH3]
        exact append_get.1
    obtain ⟨x6, H4, z1, z2⟩ := key
    obtain ⟨x', H', g1, g2, g3⟩ := gcS (H := H) z2 (sets_plain _ _) (ps := [.int .i64 0]) rfl
    refine ⟨x', H', ?_, g2, g3⟩
    obtain ⟨aG, cG, rfl⟩ := hg.len
    subst hye; subst hyw
    obtain ⟨_, _, rfl⟩ := z2.rd.len
    subst hH3; subst hz8
    exact f30_F_1 _ _ h26 (by simp [h]) w1 n1 (by omega) rfl (by omega) (by omega) z1 (by rw [pfin_eq, if_neg (by simp [a30])]; exact g1)
  · refine .inl ⟨h, ?_⟩
    obtain ⟨aG, cG, rfl⟩ := hg.len
    exact f30_F_0 h26 (by simpa using h)

end Go.Proofs.YtkemihfaohkoeaaDoor.Am11d
set_option linter.unusedVariables false
open Go Go.Proofs.YtkemihfaohkoeaaDoor.Am
namespace Go.Proofs.YtkemihfaohkoeaaDoor.Am11d
theorem f31_F_0 {x0a : Option Addr} {x0n x0c : Nat} {H : AHeap} {prot : Nat} {z5 : Int} {H1 : AHeap} (h1 : 0 ≤ (↑x0n : Int)) (h2 : (↑x0n : Int) = (↑x0n : Int)) (h3 : (↑x0n : Int) ≤ 9223372036854775807) (h4 : (↑8 : Int) * (↑x0n : Int) ≤ 2 ^ 48) (h5 : lpInf (lpOf cfg a31 0 prot H) ([Value.slice x0a x0n x0c, Value.int .i64 (↑x0n : Int), Value.slice (some ⟨List.length H, 0, some ((↑x0n : Int).toNat * 1)⟩) (↑x0n : Int).toNat (↑x0n : Int).toNat, Value.int .i64 0, Value.int .i64 0], H ++ [AObj.cells (repCells [Value.int .i64 0] (↑x0n : Int).toNat) 3 (repCells [Value.int .i64 0] (↑x0n : Int).toNat).length OMode.row]) = some (Ex.exit 0, [Value.int .i64 z5], H1)) : callInf cfg 31 [.slice x0a x0n x0c] prot H = some (Value.int .i64 z5, H) :=
  fn_of2 a31 [.e, .e, .lo (.exit 0, [.int .i64 z5], H1)] (ai h1 (ai h2 (ai h3 (ai h4 (ai h5 (Eq.refl ((Value.int .i64 z5, H) : Value × AHeap))))))) (by kernel_rfl) rfl
theorem f31_L0_0 {x0a : Option Addr} {x0n x0c : Nat} {x3 : Int} {x4a : Option Addr} {x4n x4c : Nat} {x5 x6 : Int} {H0 : AHeap} {prot : Nat} {H : AHeap} {z0a : Option Addr} {z0n z0c : Nat} {z3 : Int} {z4a : Option Addr} {z4n z4c : Nat} {z5 z6 : Int} {H2 : AHeap} (h1 : x6 < x3) (h2 : lpInf (lpOf cfg a31 1 prot H0) ([Value.slice x0a x0n x0c, Value.int .i64 x3, Value.slice x4a x4n x4c, Value.int .i64 x5, Value.int .i64 x6, Value.int .i64 0], H) = some (Ex.exit 2, [Value.slice z0a z0n z0c, Value.int .i64 z3, Value.slice z4a z4n z4c, Value.int .i64 z5, Value.int .i64 z6], H2)) (h3 : Fit .i64 (z6 + 1)) : lpOf cfg a31 0 prot H0 ([.slice x0a x0n x0c, .int .i64 x3, .slice x4a x4n x4c, .int .i64 x5, .int .i64 x6], H) = some (Sum.inl ([Value.slice z0a z0n z0c, Value.int .i64 z3, Value.slice z4a z4n z4c, Value.int .i64 z5, Value.int .i64 (z6 + 1)], H2)) :=
  lp_of2 [.e, .b true, .lo (.exit 2, [.slice z0a z0n z0c, .int .i64 z3, .slice z4a z4n z4c, .int .i64 z5, .int .i64 z6], H2), .e] (ai (decide_eq_true h1) (ai h2 (ai h3 (Eq.refl (Sum.inl ([Value.slice z0a z0n z0c, Value.int .i64 z3, Value.slice z4a z4n z4c, Value.int .i64 z5, Value.int .i64 (z6 + 1)], H2) : LS ⊕ LO))))) (by kernel_rfl)
theorem f31_L0_1 {x0a : Option Addr} {x0n x0c : Nat} {x3 : Int} {x4a : Option Addr} {x4n x4c : Nat} {x5 x6 : Int} {H0 : AHeap} {prot : Nat} {H : AHeap} (h1 : ¬(x6 < x3)) : lpOf cfg a31 0 prot H0 ([.slice x0a x0n x0c, .int .i64 x3, .slice x4a x4n x4c, .int .i64 x5, .int .i64 x6], H) = some (Sum.inr (Ex.exit 0, [Value.int .i64 x5], H)) :=
  lp_of2 [.e, .b false] (ai (decide_eq_false h1) (Eq.refl (Sum.inr (Ex.exit 0, [Value.int .i64 x5], H) : LS ⊕ LO))) (by kernel_rfl)
theorem f31_L1_0 {x0a : Option Addr} {x0n x0c : Nat} {x3 : Int} {x4a : Option Addr} {x4n x4c : Nat} {x5 x6 x7 : Int} {H0 : AHeap} {prot : Nat} {H : AHeap} {z0a : Option Addr} {z0n z0c : Nat} {z3 : Int} {z4a : Option Addr} {z4n z4c : Nat} {z5 z6 z7 : Int} {H2 : AHeap} (h1 : x7 < x3) (h2 : lpInf (lpOf cfg a31 2 prot H0) ([Value.slice x0a x0n x0c, Value.int .i64 x3, Value.slice x4a x4n x4c, Value.int .i64 x5, Value.int .i64 x6, Value.int .i64 x7, Value.int .i64 0], H) = some (Ex.exit 4, [Value.slice z0a z0n z0c, Value.int .i64 z3, Value.slice z4a z4n z4c, Value.int .i64 z5, Value.int .i64 z6, Value.int .i64 z7], H2)) (h3 : Fit .i64 (z7 + 1)) : lpOf cfg a31 1 prot H0 ([.slice x0a x0n x0c, .int .i64 x3, .slice x4a x4n x4c, .int .i64 x5, .int .i64 x6, .int .i64 x7], H) = some (Sum.inl ([Value.slice z0a z0n z0c, Value.int .i64 z3, Value.slice z4a z4n z4c, Value.int .i64 z5, Value.int .i64 z6, Value.int .i64 (z7 + 1)], H2)) :=
  lp_of2 [.e, .b true, .lo (.exit 4, [.slice z0a z0n z0c, .int .i64 z3, .slice z4a z4n z4c, .int .i64 z5, .int .i64 z6, .int .i64 z7], H2), .e] (ai (decide_eq_true h1) (ai h2 (ai h3 (Eq.refl (Sum.inl ([Value.slice z0a z0n z0c, Value.int .i64 z3, Value.slice z4a z4n z4c, Value.int .i64 z5, Value.int .i64 z6, Value.int .i64 (z7 + 1)], H2) : LS ⊕ LO))))) (by kernel_rfl)
theorem f31_L1_1 {x0a : Option Addr} {x0n x0c : Nat} {x3 : Int} {x4a : Option Addr} {x4n x4c : Nat} {x5 x6 x7 : Int} {H0 : AHeap} {prot : Nat} {H : AHeap} (h1 : ¬(x7 < x3)) : lpOf cfg a31 1 prot H0 ([.slice x0a x0n x0c, .int .i64 x3, .slice x4a x4n x4c, .int .i64 x5, .int .i64 x6, .int .i64 x7], H) = some (Sum.inr (Ex.exit 2, [Value.slice x0a x0n x0c, Value.int .i64 x3, Value.slice x4a x4n x4c, Value.int .i64 x5, Value.int .i64 x6], H)) :=
  lp_of2 [.e, .b false] (ai (decide_eq_false h1) (Eq.refl (Sum.inr (Ex.exit 2, [Value.slice x0a x0n x0c, Value.int .i64 x3, Value.slice x4a x4n x4c, Value.int .i64 x5, Value.int .i64 x6], H) : LS ⊕ LO))) (by kernel_rfl)
theorem f31_L2_0 {x0a : Option Addr} {x0n x0c : Nat} {x3 : Int} {x4a : Option Addr} {x4n x4c : Nat} {x5 x6 x7 x8 : Int} {H0 : AHeap} {prot : Nat} {H : AHeap} {x34p x34o x34l : Nat} {x35 : Array Value} {x37 : Bool} {x42p x42o x42l : Nat} {x43 : Int} {x47p x47o x47l : Nat} {x48 : Int} {x55p x55o x55l : Nat} {x56 : Int} {x58p x58o x58l : Nat} {H2 : AHeap} {x62p x62o x62l : Nat} {x63 : Int} (h1 : x8 < x3) (h2 : (x8 != x7) = true) (h3 : aindexAddr cfg.P 53 (Value.slice x0a x0n x0c) (Value.int .i64 x7) = some (Value.pointer (some ⟨x34p, x34o, some x34l⟩))) (h4 : getCells H x34p x34l x34o 8 = some x35.toList) (h5 : callInf cfg 20 [Value.agg x35, Value.int .i64 x8] (List.length H0) H = some (Value.bool x37, H)) (h6 : x37 = true) (h7 : aindexAddr cfg.P 24 (Value.slice x4a x4n x4c) (Value.int .i64 x8) = some (Value.pointer (some ⟨x42p, x42o, some x42l⟩))) (h8 : getCells H x42p x42l x42o 1 = some [Value.int .i64 x43]) (h9 : Fit .i64 (x43 + 1)) (h10 : aindexAddr cfg.P 24 (Value.slice x4a x4n x4c) (Value.int .i64 x7) = some (Value.pointer (some ⟨x47p, x47o, some x47l⟩))) (h11 : getCells H x47p x47l x47o 1 = some [Value.int .i64 x48]) (h12 : x43 + 1 > x48) (h13 : aindexAddr cfg.P 24 (Value.slice x4a x4n x4c) (Value.int .i64 x8) = some (Value.pointer (some ⟨x55p, x55o, some x55l⟩))) (h14 : getCells H x55p x55l x55o 1 = some [Value.int .i64 x56]) (h15 : Fit .i64 (x56 + 1)) (h16 : aindexAddr cfg.P 24 (Value.slice x4a x4n x4c) (Value.int .i64 x7) = some (Value.pointer (some ⟨x58p, x58o, some x58l⟩))) (h17 : [Value.int .i64 (x56 + 1)].length = 1) (h18 : setCells H (List.length H0) x58p x58l x58o [Value.int .i64 (x56 + 1)] = some H2) (h19 : aindexAddr cfg.P 24 (Value.slice x4a x4n x4c) (Value.int .i64 x7) = some (Value.pointer (some ⟨x62p, x62o, some x62l⟩))) (h20 : getCells H2 x62p x62l x62o 1 = some [Value.int .i64 x63]) (h21 : Fit .i64 (x8 + 1)) : lpOf cfg a31 2 prot H0 ([.slice x0a x0n x0c, .int .i64 x3, .slice x4a x4n x4c, .int .i64 x5, .int .i64 x6, .int .i64 x7, .int .i64 x8], H) = some (Sum.inl ([Value.slice x0a x0n x0c, Value.int .i64 x3, Value.slice x4a x4n x4c, Value.int .i64 (if x63 > x5 then x63 else x5), Value.int .i64 x6, Value.int .i64 x7, Value.int .i64 (x8 + 1)], H2)) :=
  lp_of2 [.e, .b true, .e, .b true, .b true, .b true, .v (.pointer (some ⟨x34p, x34o, some x34l⟩)), .b true, .v (.agg x35), .b true, .b true, .v (.bool x37), .b true, .b true, .b true, .b true, .v (.pointer (some ⟨x42p, x42o, some x42l⟩)), .b true, .v (.int .i64 x43), .b true, .e, .b true, .b true, .b true, .v (.pointer (some ⟨x47p, x47o, some x47l⟩)), .b true, .v (.int .i64 x48), .b true, .e, .b true, .b true, .v (.pointer (some ⟨x55p, x55o, some x55l⟩)), .v (.int .i64 x56), .e, .v (.pointer (some ⟨x58p, x58o, some x58l⟩)), .h H2, .v (.pointer (some ⟨x62p, x62o, some x62l⟩)), .v (.int .i64 x63), .e, .e] (ai (decide_eq_true h1) (ai h2 (ai h2 (ai h2 (ai h3 (ai h2 (ai h4 (ai h2 (ai h2 (ai h5 (ai h2 (ai h6 (ai h6 (ai h6 (ai h7 (ai h6 (ai h8 (ai h6 (ai h9 (ai h6 (ai h6 (ai h6 (ai h10 (ai h6 (ai h11 (ai h6 (ai h6 (ai (decide_eq_true h12) (ai h13 (ai h14 (ai h15 (ai h16 (ai h17 (ai h18 (ai h19 (ai h20 (ai h21 (Eq.refl (Sum.inl ([Value.slice x0a x0n x0c, Value.int .i64 x3, Value.slice x4a x4n x4c, Value.int .i64 (if x63 > x5 then x63 else x5), Value.int .i64 x6, Value.int .i64 x7, Value.int .i64 (x8 + 1)], H2) : LS ⊕ LO))))))))))))))))))))))))))))))))))))))) (by kernel_rfl)
theorem f31_L2_1 {x0a : Option Addr} {x0n x0c : Nat} {x3 : Int} {x4a : Option Addr} {x4n x4c : Nat} {x5 x6 x7 x8 : Int} {H0 : AHeap} {prot : Nat} {H : AHeap} {x34p x34o x34l : Nat} {x35 : Array Value} {x37 : Bool} {x42p x42o x42l : Nat} {x43 : Int} {x47p x47o x47l : Nat} {x48 : Int} (h1 : x8 < x3) (h2 : (x8 != x7) = true) (h3 : aindexAddr cfg.P 53 (Value.slice x0a x0n x0c) (Value.int .i64 x7) = some (Value.pointer (some ⟨x34p, x34o, some x34l⟩))) (h4 : getCells H x34p x34l x34o 8 = some x35.toList) (h5 : callInf cfg 20 [Value.agg x35, Value.int .i64 x8] (List.length H0) H = some (Value.bool x37, H)) (h6 : x37 = true) (h7 : aindexAddr cfg.P 24 (Value.slice x4a x4n x4c) (Value.int .i64 x8) = some (Value.pointer (some ⟨x42p, x42o, some x42l⟩))) (h8 : getCells H x42p x42l x42o 1 = some [Value.int .i64 x43]) (h9 : Fit .i64 (x43 + 1)) (h10 : aindexAddr cfg.P 24 (Value.slice x4a x4n x4c) (Value.int .i64 x7) = some (Value.pointer (some ⟨x47p, x47o, some x47l⟩))) (h11 : getCells H x47p x47l x47o 1 = some [Value.int .i64 x48]) (h12 : ¬(x43 + 1 > x48)) (h13 : Fit .i64 (x8 + 1)) : lpOf cfg a31 2 prot H0 ([.slice x0a x0n x0c, .int .i64 x3, .slice x4a x4n x4c, .int .i64 x5, .int .i64 x6, .int .i64 x7, .int .i64 x8], H) = some (Sum.inl ([Value.slice x0a x0n x0c, Value.int .i64 x3, Value.slice x4a x4n x4c, Value.int .i64 x5, Value.int .i64 x6, Value.int .i64 x7, Value.int .i64 (x8 + 1)], H)) :=
  lp_of2 [.e, .b true, .e, .b true, .b true, .b true, .v (.pointer (some ⟨x34p, x34o, some x34l⟩)), .b true, .v (.agg x35), .b true, .b true, .v (.bool x37), .b true, .b true, .b true, .b true, .v (.pointer (some ⟨x42p, x42o, some x42l⟩)), .b true, .v (.int .i64 x43), .b true, .e, .b true, .b true, .b true, .v (.pointer (some ⟨x47p, x47o, some x47l⟩)), .b true, .v (.int .i64 x48), .b true, .e, .b true, .b false, .e] (ai (decide_eq_true h1) (ai h2 (ai h2 (ai h2 (ai h3 (ai h2 (ai h4 (ai h2 (ai h2 (ai h5 (ai h2 (ai h6 (ai h6 (ai h6 (ai h7 (ai h6 (ai h8 (ai h6 (ai h9 (ai h6 (ai h6 (ai h6 (ai h10 (ai h6 (ai h11 (ai h6 (ai h6 (ai (decide_eq_false h12) (ai h13 (Eq.refl (Sum.inl ([Value.slice x0a x0n x0c, Value.int .i64 x3, Value.slice x4a x4n x4c, Value.int .i64 x5, Value.int .i64 x6, Value.int .i64 x7, Value.int .i64 (x8 + 1)], H) : LS ⊕ LO))))))))))))))))))))))))))))))) (by kernel_rfl)
theorem f31_L2_2 {x0a : Option Addr} {x0n x0c : Nat} {x3 : Int} {x4a : Option Addr} {x4n x4c : Nat} {x5 x6 x7 x8 : Int} {H0 : AHeap} {prot : Nat} {H : AHeap} {x34p x34o x34l : Nat} {x35 : Array Value} {x37 : Bool} (h1 : x8 < x3) (h2 : (x8 != x7) = true) (h3 : aindexAddr cfg.P 53 (Value.slice x0a x0n x0c) (Value.int .i64 x7) = some (Value.pointer (some ⟨x34p, x34o, some x34l⟩))) (h4 : getCells H x34p x34l x34o 8 = some x35.toList) (h5 : callInf cfg 20 [Value.agg x35, Value.int .i64 x8] (List.length H0) H = some (Value.bool x37, H)) (h6 : x37 = false) (h7 : Fit .i64 (x8 + 1)) : lpOf cfg a31 2 prot H0 ([.slice x0a x0n x0c, .int .i64 x3, .slice x4a x4n x4c, .int .i64 x5, .int .i64 x6, .int .i64 x7, .int .i64 x8], H) = some (Sum.inl ([Value.slice x0a x0n x0c, Value.int .i64 x3, Value.slice x4a x4n x4c, Value.int .i64 x5, Value.int .i64 x6, Value.int .i64 x7, Value.int .i64 (x8 + 1)], H)) :=
  lp_of2 [.e, .b true, .e, .b true, .b true, .b true, .v (.pointer (some ⟨x34p, x34o, some x34l⟩)), .b true, .v (.agg x35), .b true, .b true, .v (.bool x37), .b true, .b false, .b false, .b false, .b false, .b false, .b false, .b false, .b false, .b false, .b false, .b false, .b false, .e] (ai (decide_eq_true h1) (ai h2 (ai h2 (ai h2 (ai h3 (ai h2 (ai h4 (ai h2 (ai h2 (ai h5 (ai h2 (ai h6 (ai h6 (ai h6 (ai h6 (ai h6 (ai h6 (ai h6 (ai h6 (ai h6 (ai h6 (ai h6 (ai (Eq.refl false) (ai h7 (Eq.refl (Sum.inl ([Value.slice x0a x0n x0c, Value.int .i64 x3, Value.slice x4a x4n x4c, Value.int .i64 x5, Value.int .i64 x6, Value.int .i64 x7, Value.int .i64 (x8 + 1)], H) : LS ⊕ LO)))))))))))))))))))))))))) (by kernel_rfl)
theorem f31_L2_3 {x0a : Option Addr} {x0n x0c : Nat} {x3 : Int} {x4a : Option Addr} {x4n x4c : Nat} {x5 x6 x7 x8 : Int} {H0 : AHeap} {prot : Nat} {H : AHeap} (h1 : x8 < x3) (h2 : (x8 != x7) = false) (h3 : Fit .i64 (x8 + 1)) : lpOf cfg a31 2 prot H0 ([.slice x0a x0n x0c, .int .i64 x3, .slice x4a x4n x4c, .int .i64 x5, .int .i64 x6, .int .i64 x7, .int .i64 x8], H) = some (Sum.inl ([Value.slice x0a x0n x0c, Value.int .i64 x3, Value.slice x4a x4n x4c, Value.int .i64 x5, Value.int .i64 x6, Value.int .i64 x7, Value.int .i64 (x8 + 1)], H)) :=
  lp_of2 [.e, .b true, .e, .b false, .b false, .b false, .b false, .b false, .b false, .b false, .b false, .b false, .b false, .b false, .b false, .b false, .b false, .b false, .b false, .b false, .b false, .b false, .e] (ai (decide_eq_true h1) (ai h2 (ai h2 (ai h2 (ai h2 (ai h2 (ai h2 (ai h2 (ai (Eq.refl false) (ai (Eq.refl false) (ai (Eq.refl false) (ai (Eq.refl false) (ai (Eq.refl false) (ai (Eq.refl false) (ai (Eq.refl false) (ai (Eq.refl false) (ai (Eq.refl false) (ai (Eq.refl false) (ai (Eq.refl false) (ai (Eq.refl false) (ai h3 (Eq.refl (Sum.inl ([Value.slice x0a x0n x0c, Value.int .i64 x3, Value.slice x4a x4n x4c, Value.int .i64 x5, Value.int .i64 x6, Value.int .i64 x7, Value.int .i64 (x8 + 1)], H) : LS ⊕ LO))))))))))))))))))))))) (by kernel_rfl)
theorem f31_L2_4 {x0a : Option Addr} {x0n x0c : Nat} {x3 : Int} {x4a : Option Addr} {x4n x4c : Nat} {x5 x6 x7 x8 : Int} {H0 : AHeap} {prot : Nat} {H : AHeap} (h1 : ¬(x8 < x3)) : lpOf cfg a31 2 prot H0 ([.slice x0a x0n x0c, .int .i64 x3, .slice x4a x4n x4c, .int .i64 x5, .int .i64 x6, .int .i64 x7, .int .i64 x8], H) = some (Sum.inr (Ex.exit 4, [Value.slice x0a x0n x0c, Value.int .i64 x3, Value.slice x4a x4n x4c, Value.int .i64 x5, Value.int .i64 x6, Value.int .i64 x7], H)) :=
  lp_of2 [.e, .b false] (ai (decide_eq_false h1) (Eq.refl (Sum.inr (Ex.exit 4, [Value.slice x0a x0n x0c, Value.int .i64 x3, Value.slice x4a x4n x4c, Value.int .i64 x5, Value.int .i64 x6, Value.int .i64 x7], H) : LS ⊕ LO))) (by kernel_rfl)
end Go.Proofs.YtkemihfaohkoeaaDoor.Am11d
set_option linter.unusedVariables false
open Go Go.Proofs.YtkemihfaohkoeaaDoor.Am
namespace Go.Proofs.YtkemihfaohkoeaaDoor.Am11d
theorem f9_F_0 {x0a : Option Addr} {x0n x0c : Nat} {H : AHeap} {prot : Nat} {x8aa : Option Addr} {x8an x8ac : Nat} {x8b : Int} {H1 : AHeap} (h1 : callInf cfg 30 [Value.slice x0a x0n x0c] (List.length H) H = some (Value.tuple { toList := [Value.slice x8aa x8an x8ac, Value.int .i64 x8b] }, H1)) (h2 : (x8b != 0) = true) : callInf cfg 9 [.slice x0a x0n x0c] prot H = some (Value.tuple { toList := [Value.int .i64 0, Value.int .i64 x8b] }, H) :=
  fn_of2 a9 [.r (.tuple #[.slice x8aa x8an x8ac, .int .i64 x8b]) H1, .e, .b true] (ai h1 (ai h2 (Eq.refl ((Value.tuple { toList := [Value.int .i64 0, Value.int .i64 x8b] }, H) : Value × AHeap)))) (by kernel_rfl) rfl
theorem f9_F_1 {x0a : Option Addr} {x0n x0c : Nat} {H : AHeap} {prot : Nat} {x8aa : Option Addr} {x8an x8ac : Nat} {x8b : Int} {H1 : AHeap} {x15 : Int} (h1 : callInf cfg 30 [Value.slice x0a x0n x0c] (List.length H) H = some (Value.tuple { toList := [Value.slice x8aa x8an x8ac, Value.int .i64 x8b] }, H1)) (h2 : (x8b != 0) = false) (h3 : callInf cfg 31 [Value.slice x8aa x8an x8ac] (List.length H) H1 = some (Value.int .i64 x15, H1)) : callInf cfg 9 [.slice x0a x0n x0c] prot H = some (Value.tuple { toList := [Value.int .i64 x15, Value.int .i64 0] }, H) :=
  fn_of2 a9 [.r (.tuple #[.slice x8aa x8an x8ac, .int .i64 x8b]) H1, .e, .b false, .v (.int .i64 x15)] (ai h1 (ai h2 (ai h3 (Eq.refl ((Value.tuple { toList := [Value.int .i64 x15, Value.int .i64 0] }, H) : Value × AHeap))))) (by kernel_rfl) rfl
end Go.Proofs.YtkemihfaohkoeaaDoor.Am11d
namespace Go.Proofs.YtkemihfaohkoeaaDoor.Am11d
open Go Go.Proofs.YtkemihfaohkoeaaDoor.Am
/-! The document's Depth. -/
structure WC (G0 H : AHeap) (n : Nat) (h : Nat → Nat) (x x4 : Value) (o : Nat) (A : Nat → Nat → Bool) (F : Nat → Nat) (b : Nat) : Prop where
  rd : Rd H 46 8 x n (sets A n)
  ow : Own H 3 1 x4 (some o) n (il (nl (farL F n)))
  lo : G0.length ≤ o
  up : ∀ c, c < n → F c ≤ h c
  b1 : ∀ c, c < n → F c ≤ b
  b2 : b = 0 ∨ ∃ c, c < n ∧ F c = b
theorem set_rd {H : AHeap} {x : Value} {n : Nat} {A : Nat → Nat → Bool} (h : Rd H 46 8 x n (sets A n)) {k : Nat} (hk : k < n) :
    ∃ id L, aindexAddr cfg.P 53 x (.int .i64 (k : Nat)) = some (.pointer (some ⟨id, k * 8, some L⟩)) ∧ getCells H id L (k * 8) 8 = some (setA (A k)).toList := by
  obtain ⟨id, L, a, b⟩ := rd_atS T46 h hk
  have := b 0 8 (Nat.le_refl _)
  rw [Nat.add_zero, sets_get A n hk] at this
  exact ⟨id, L, a, this⟩
/-- One round's look at one element. -/
theorem loop31d {G0 : AHeap} {n : Nat} {A : Nat → Nat → Bool} {h : Nat → Nat} (hn : n ≤ 512) (hh : Ht A n h) {x x4 : Value} {o prot t c : Nat} (hc : c < n) : ∀ (k d b : Nat) (F : Nat → Nat) (H : AHeap), d + k = n → WC G0 H n h x x4 o A F b →
      (∀ e, e < d → e ≠ c → A c e = true → F e + 1 ≤ F c) →
    ∃ (F' : Nat → Nat) (b' : Nat) (H' : AHeap), lpInf (lpOf cfg a31 2 prot G0) ([x, .int .i64 n, x4, .int .i64 b, .int .i64 t, .int .i64 c, .int .i64 d], H) = some (.exit 4, [x, .int .i64 n, x4, .int .i64 b', .int .i64 t, .int .i64 c], H') ∧ WC G0 H' n h x x4 o A F' b' ∧
      (∀ e, e < n → e ≠ c → A c e = true → F' e + 1 ≤ F' c) ∧ (∀ e, e ≠ c → F' e = F e) ∧ F c ≤ F' c
  | 0, d, b, F, H, hd, hw, hF => by
    have : d = n := by omega
    subst this
    obtain ⟨_, _, rfl⟩ := hw.rd.len
    obtain ⟨_, _, rfl⟩ := hw.ow.len
    exact ⟨F, b, H, lp_last (f31_L2_4 (by omega)), hw, hF, fun _ _ => rfl, Nat.le_refl _⟩
  | k + 1, d, b, F, H, hd, hw, hF => by
    have hdn : d < n := by omega
    have fi : Fit .i64 ((d : Int) + 1) := fit64 (by omega) (by omega)
    obtain ⟨ax, cx, hx⟩ := hw.rd.len
    obtain ⟨a4, c4, hx4⟩ := hw.ow.len
    by_cases e : d = c
    · obtain ⟨F', b', H', z1, z2, z3, z4, z5⟩ := loop31d hn hh (prot := prot) (t := t) hc k (d + 1) b F H (by omega) hw (fun e' h1 h2 h3 => hF e' (by omega) h2 h3)
      refine ⟨F', b', H', ?_, z2, z3, z4, z5⟩
      subst hx; subst hx4
      exact lp_next (f31_L2_3 (by omega) (by simp [e]) fi) z1
    · have hne : ((d : Int) != (c : Int)) = true := by simp; omega
      obtain ⟨i1, L1, a1, a2⟩ := set_rd hw.rd hc
      have h20 := c20 (S := A c) (show d < 512 by omega) G0.length H
      cases hA : A c d with
      | false =>
        obtain ⟨F', b', H', z1, z2, z3, z4, z5⟩ := loop31d hn hh (prot := prot) (t := t) hc k (d + 1) b F H (by omega) hw (fun e' h1 h2 h3 => by
          by_cases e0 : e' = d
          · subst e0; rw [hA] at h3; cases h3
          · exact hF e' (by omega) h2 h3)
        refine ⟨F', b', H', ?_, z2, z3, z4, z5⟩
        subst hx; subst hx4
        exact lp_next (f31_L2_2 (x35 := setA (A c)) (by omega) hne a1 a2 h20 hA fi) z1
      | true =>
        have hge := hh.ge c d hc hdn e hA
        have hud := hw.up d hdn
        have huc := hw.up c hc
        have hlc := hh.lt c hc
        obtain ⟨i2, L2, d1, d2⟩ := own_at T34 hw.ow (farL_get hdn)
        obtain ⟨i3, L3, e1, e2⟩ := own_at T34 hw.ow (farL_get hc)
        by_cases hlt : F c < F d + 1
        · obtain ⟨id, H2, ee, s1, s2, s3, s4, s5⟩ := own_setS T34 hw.ow (i := c) (j := 0) hc (vs := [.int .i64 ((F d + 1 : Nat) : Int)]) (by simp) rfl (prot := G0.length) (fun id e => by cases e; exact hw.lo)
          cases ee
          rw [put_il _ (by rw [farL_len]; exact hc), farL_set _ hc] at s3
          rw [Nat.mul_one] at s1
          rw [Nat.mul_one, Nat.add_zero] at s2
          obtain ⟨_, _, _, _, _, gd⟩ := hw.ow
          obtain ⟨i4, L4, q1, q2⟩ := own_at T34 s3 (farL_get hc)
          rw [setF_at, if_pos rfl] at q2
          have hw2 : WC G0 H2 n h x x4 o A (setF F c (F d + 1)) (max (F d + 1) b) := by
            refine ⟨hw.rd.stayE gd (by decide) s4, s3, hw.lo, fun v hv => ?_, fun v hv => ?_, ?_⟩
            · rw [setF_at]; split
              · rename_i ev; subst ev; omega
              · exact hw.up v hv
            · rw [setF_at]; split
              · omega
              · have := hw.b1 v hv; omega
            · rcases Nat.le_total (F d + 1) b with g | g
              · rw [Nat.max_eq_right g]
                rcases hw.b2 with g2 | ⟨v, v1, v2⟩
                · exact .inl g2
                · by_cases ev : v = c
                  · subst ev; omega
                  · exact .inr ⟨v, v1, by rw [setF_at, if_neg ev]; exact v2⟩
              · rw [Nat.max_eq_left g]
                exact .inr ⟨c, hc, by rw [setF_at, if_pos rfl]⟩
          obtain ⟨F', b', H', z1, z2, z3, z4, z5⟩ := loop31d hn hh (prot := prot) (t := t) hc k (d + 1) _ _ H2 (by omega) hw2 (fun e' h1 h2 h3 => by
            rw [setF_at, setF_at, if_neg h2, if_pos rfl]
            by_cases e0 : e' = d
            · subst e0; omega
            · have := hF e' (by omega) h2 h3; omega)
          rw [setF_at, if_pos rfl] at z5
          refine ⟨F', b', H', ?_, z2, z3, fun e' he' => by rw [z4 e' he', setF_at, if_neg he'], by omega⟩
          have hif : (if ((F d + 1 : Nat) : Int) > (b : Int) then ((F d + 1 : Nat) : Int) else (b : Int)) = ((max (F d + 1) b : Nat) : Int) := by split <;> omega
          rw [← hif] at z1
          have s2' : setCells H G0.length o ((il (nl (farL F n))).length) c [.int .i64 (((F d : Nat) : Int) + 1)] = some H2 := by
            rw [show (((F d : Nat) : Int) + 1) = ((F d + 1 : Nat) : Int) by push_cast; rfl]; exact s2
          subst hx; subst hx4
          exact lp_next (f31_L2_0 (x35 := setA (A c)) (by omega) hne a1 a2 h20 hA d1 d2 (fit64 (by omega) (by omega)) e1 e2 (by omega) d1 d2 (fit64 (by omega) (by omega)) s1 rfl s2' q1 q2 fi) z1
        · obtain ⟨F', b', H', z1, z2, z3, z4, z5⟩ := loop31d hn hh (prot := prot) (t := t) hc k (d + 1) b F H (by omega) hw (fun e' h1 h2 h3 => by
            by_cases e0 : e' = d
            · subst e0; omega
            · exact hF e' (by omega) h2 h3)
          refine ⟨F', b', H', ?_, z2, z3, z4, z5⟩
          subst hx; subst hx4
          exact lp_next (f31_L2_1 (x35 := setA (A c)) (by omega) hne a1 a2 h20 hA d1 d2 (fit64 (by omega) (by omega)) e1 e2 (by omega) fi) z1
theorem loop31c {G0 : AHeap} {n : Nat} {A : Nat → Nat → Bool} {h : Nat → Nat} (hn : n ≤ 512) (hh : Ht A n h) {x x4 : Value} {o prot t : Nat} : ∀ (k c b : Nat) (F : Nat → Nat) (H : AHeap), c + k = n → WC G0 H n h x x4 o A F b →
      (∀ e, e < n → min (h e) t ≤ F e) → (∀ e, e < c → min (h e) (t + 1) ≤ F e) →
    ∃ (F' : Nat → Nat) (b' : Nat) (H' : AHeap), lpInf (lpOf cfg a31 1 prot G0) ([x, .int .i64 n, x4, .int .i64 b, .int .i64 t, .int .i64 c], H) = some (.exit 2, [x, .int .i64 n, x4, .int .i64 b', .int .i64 t], H') ∧ WC G0 H' n h x x4 o A F' b' ∧ (∀ e, e < n → min (h e) (t + 1) ≤ F' e)
  | 0, c, b, F, H, hd, hw, h1, h2 => by
    have : c = n := by omega
    subst this
    obtain ⟨_, _, rfl⟩ := hw.rd.len
    obtain ⟨_, _, rfl⟩ := hw.ow.len
    exact ⟨F, b, H, lp_last (f31_L1_1 (by omega)), hw, h2⟩
  | k + 1, c, b, F, H, hd, hw, h1, h2 => by
    have hc : c < n := by omega
    obtain ⟨F1, b1, H1, y1, y2, y3, y4, y5⟩ := loop31d hn hh (prot := prot) (t := t) hc n 0 b F H (by omega) hw (fun e he => by omega)
    obtain ⟨F', b', H', z1, z2, z3⟩ := loop31c hn hh (prot := prot) (t := t) k (c + 1) b1 F1 H1 (by omega) y2 (fun e he => by
      by_cases e0 : e = c
      · subst e0; have := h1 e he; omega
      · rw [y4 e e0]; exact h1 e he) (fun e he => by
      by_cases e0 : e = c
      · subst e0
        rcases hh.ex e hc with g | ⟨d, d1, d2, d3, g⟩
        · omega
        · have a := y3 d d1 d2 d3
          rw [y4 d d2] at a
          have := h1 d d1
          omega
      · rw [y4 e e0]; exact h2 e (by omega))
    refine ⟨F', b', H', ?_, z2, z3⟩
    obtain ⟨_, _, rfl⟩ := hw.rd.len
    obtain ⟨_, _, rfl⟩ := hw.ow.len
    exact lp_next (f31_L1_0 (by omega) y1 (fit64 (by omega) (by omega))) z1
theorem loop31t {G0 : AHeap} {n : Nat} {A : Nat → Nat → Bool} {h : Nat → Nat} (hn : n ≤ 512) (hh : Ht A n h) {x x4 : Value} {o prot : Nat} : ∀ (k t b : Nat) (F : Nat → Nat) (H : AHeap), t + k = n → WC G0 H n h x x4 o A F b →
      (∀ e, e < n → min (h e) t ≤ F e) →
    ∃ H', lpInf (lpOf cfg a31 0 prot G0) ([x, .int .i64 n, x4, .int .i64 b, .int .i64 t], H) = some (.exit 0, [.int .i64 ((topH h n : Nat) : Int)], H')
  | 0, t, b, F, H, hd, hw, h1 => by
    have : t = n := by omega
    subst this
    obtain ⟨_, _, rfl⟩ := hw.rd.len
    obtain ⟨_, _, rfl⟩ := hw.ow.len
    have hF : ∀ e, e < t → F e = h e := fun e he => by have := h1 e he; have := hw.up e he; have := hh.lt e he; omega
    have hb : b = topH h t := by
      rw [← topH_congr hF]
      exact topH_is hw.b1 hw.b2
    subst hb
    exact ⟨H, lp_last (f31_L0_1 (by omega))⟩
  | k + 1, t, b, F, H, hd, hw, h1 => by
    obtain ⟨F1, b1, H1, y1, y2, y3⟩ := loop31c hn hh (prot := prot) (t := t) n 0 b F H (by omega) hw h1 (fun e he => by omega)
    obtain ⟨H', z1⟩ := loop31t hn hh (prot := prot) k (t + 1) b1 F1 H1 (by omega) y2 y3
    refine ⟨H', ?_⟩
    obtain ⟨_, _, rfl⟩ := hw.rd.len
    obtain ⟨_, _, rfl⟩ := hw.ow.len
    exact lp_next (f31_L0_0 (by omega) y1 (fit64 (by omega) (by omega))) z1
theorem cChain {n : Nat} {A : Nat → Nat → Bool} {h : Nat → Nat} (hn : n ≤ 512) (hh : Ht A n h) {x : Value} (prot : Nat) {H : AHeap} (hx : Rd H 46 8 x n (sets A n)) :
    callInf cfg 31 [x] prot H = some (.int .i64 ((topH h n : Nat) : Int), H) := by
  obtain ⟨HB, hHB⟩ : ∃ HB, HB = H ++ [AObj.cells (repCells [.int .i64 0] n) 3 (repCells [.int .i64 0] n).length .row] := ⟨_, rfl⟩
  have sB : Stay none H HB := by rw [hHB]; exact Stay.app none H _
  obtain ⟨xd, hxd⟩ : ∃ xd : Value, xd = .slice (some ⟨H.length, 0, some ((n : Int).toNat * 1)⟩) (n : Int).toNat (n : Int).toNat := ⟨_, rfl⟩
  have key : ∃ H5, lpInf (lpOf cfg a31 0 prot H) ([x, .int .i64 n, xd, .int .i64 0, .int .i64 0], HB) = some (.exit 0, [.int .i64 ((topH h n : Nat) : Int)], H5) := by
    by_cases h0 : 0 < n
    · have m : Own HB 3 1 xd (some H.length) n (il (nl (farL (fun _ => 0) n))) := by
        have hm := own_mk (e := 3) h0 H (.int .i64 0)
        rw [hxd, hHB, Int.toNat_natCast]
        have : il (nl (farL (fun _ => 0) n)) = List.replicate n (.int .i64 0) := by
          unfold il nl farL
          rw [List.map_map, List.map_map, List.eq_replicate_iff]
          refine ⟨by simp, fun b hb => ?_⟩
          obtain ⟨_, _, rfl⟩ := List.mem_map.1 hb
          rfl
        rw [this]
        exact hm
      exact loop31t hn hh n 0 0 _ HB (by omega) ⟨hx.stay sB, m, Nat.le_refl _, fun _ _ => Nat.zero_le _, fun _ _ => Nat.zero_le _, .inl rfl⟩ (fun e _ => by omega)
    · have hz : n = 0 := by omega
      subst hz
      obtain ⟨_, _, rfl⟩ := hx.len
      rw [hxd]
      exact ⟨HB, lp_last (f31_L0_1 (by decide))⟩
  obtain ⟨H5, z1⟩ := key
  obtain ⟨_, _, rfl⟩ := hx.len
  subst hxd; subst hHB
  exact f31_F_0 (by omega) rfl (by omega) (by omega) z1
theorem cDepthR {G : List (List Int)} (hs : Short G) {vG : Value} (prot : Nat) {H : AHeap} (hg : Gr H vG G) :
    callInf cfg 9 [vG] prot H = some (.tuple #[.int .i64 (if chk G = 0 then ((dpt G : Nat) : Int) else 0), .int .i64 (chk G)], H) := by
  rcases c24 hs H.length hg with ⟨h, h1⟩ | ⟨h, x', H', h1, h2, h3⟩
  · rw [if_neg h]
    obtain ⟨aG, cG, rfl⟩ := hg.len
    exact f9_F_0 h1 (by simp [h])
  · rw [if_pos h, h]
    have hGd := good_of hs h
    have h5 := hGd.1
    have hn := comp_n G
    have hc := cChain (by omega) (hG_ok G) H.length h2.rd
    obtain ⟨aG, cG, rfl⟩ := hg.len
    obtain ⟨_, _, rfl⟩ := h2.rd.len
    exact f9_F_1 h1 rfl hc
end Go.Proofs.YtkemihfaohkoeaaDoor.Am11d
set_option linter.unusedVariables false
open Go Go.Proofs.YtkemihfaohkoeaaDoor.Am
namespace Go.Proofs.YtkemihfaohkoeaaDoor.Am11d
theorem f5_F_0 {x0a : Option Addr} {x0n x0c : Nat} {H : AHeap} {prot : Nat} {z3a : Option Addr} {z3n z3c : Nat} {H1 : AHeap} (rv : Value) (rH : AHeap) (h1 : lpInf (lpOf cfg a5 0 prot H) ([Value.slice x0a x0n x0c, Value.slice none 0 0, Value.int .i64 0], H) = some (Ex.exit 0, [Value.slice z3a z3n z3c], H1)) (h2 : pfin a5 H [Value.slice z3a z3n z3c] H1 = (rv, rH)) : callInf cfg 5 [.slice x0a x0n x0c] prot H = some (rv, rH) :=
  fn_of2 a5 [.lo (.exit 0, [.slice z3a z3n z3c], H1)] (ai h1 h2) (by kernel_rfl) rfl
theorem f5_L0_0 {x0a : Option Addr} {x0n x0c : Nat} {x3a : Option Addr} {x3n x3c : Nat} {x4 : Int} {H0 : AHeap} {prot : Nat} {H : AHeap} {x14p x14o x14l : Nat} {x15a : Option Addr} {x15n x15c : Nat} {x16a : Option Addr} {x16n x16c : Nat} {H2 : AHeap} {x18a : Option Addr} {x18n x18c : Nat} {H3 : AHeap} (h1 : x4 < (↑x0n : Int)) (h2 : aindexAddr cfg.P 22 (Value.slice x0a x0n x0c) (Value.int .i64 x4) = some (Value.pointer (some ⟨x14p, x14o, some x14l⟩))) (h3 : getCells H x14p x14l x14o 1 = some [Value.slice x15a x15n x15c]) (h4 : callInf cfg 21 [Value.slice x15a x15n x15c] (List.length H0) H = some (Value.slice x16a x16n x16c, H2)) (h5 : aappend cfg.P (List.length H0) true 22 22 (Value.slice x3a x3n x3c) (Value.slice (some ⟨List.length H2, 0, some (1 * 1)⟩) 1 1) (H2 ++ [wo [Value.slice x16a x16n x16c] 24]) = some (Value.slice x18a x18n x18c, H3)) (h6 : Fit .i64 (x4 + 1)) : lpOf cfg a5 0 prot H0 ([.slice x0a x0n x0c, .slice x3a x3n x3c, .int .i64 x4], H) = some (Sum.inl ([Value.slice x0a x0n x0c, Value.slice x18a x18n x18c, Value.int .i64 (x4 + 1)], H3)) :=
  lp_of2 [.e, .e, .b true, .v (.pointer (some ⟨x14p, x14o, some x14l⟩)), .v (.slice x15a x15n x15c), .r (.slice x16a x16n x16c) H2, .e, .r (.slice x18a x18n x18c) H3, .e] (ai (decide_eq_true h1) (ai h2 (ai h3 (ai h4 (ai h5 (ai h6 (Eq.refl (Sum.inl ([Value.slice x0a x0n x0c, Value.slice x18a x18n x18c, Value.int .i64 (x4 + 1)], H3) : LS ⊕ LO)))))))) (by kernel_rfl)
theorem f5_L0_1 {x0a : Option Addr} {x0n x0c : Nat} {x3a : Option Addr} {x3n x3c : Nat} {x4 : Int} {H0 : AHeap} {prot : Nat} {H : AHeap} (h1 : ¬(x4 < (↑x0n : Int))) : lpOf cfg a5 0 prot H0 ([.slice x0a x0n x0c, .slice x3a x3n x3c, .int .i64 x4], H) = some (Sum.inr (Ex.exit 0, [Value.slice x3a x3n x3c], H)) :=
  lp_of2 [.e, .e, .b false] (ai (decide_eq_false h1) (Eq.refl (Sum.inr (Ex.exit 0, [Value.slice x3a x3n x3c], H) : LS ⊕ LO))) (by kernel_rfl)
end Go.Proofs.YtkemihfaohkoeaaDoor.Am11d
set_option linter.unusedVariables false
open Go Go.Proofs.YtkemihfaohkoeaaDoor.Am
namespace Go.Proofs.YtkemihfaohkoeaaDoor.Am11d
theorem f12_F_0 {x0a : Option Addr} {x0n x0c : Nat} {x1a : Option Addr} {x1n x1c : Nat} {H : AHeap} {prot : Nat} {z0a : Option Addr} {z0n z0c : Nat} {z1a : Option Addr} {z1n z1c : Nat} {z4 : Value} {H1 : AHeap} (h1 : lpInf (lpOf cfg a12 0 prot H) ([Value.slice x0a x0n x0c, Value.slice x1a x1n x1c, Value.int .i64 0], H) = some (Ex.exit 0, [Value.slice z0a z0n z0c, Value.slice z1a z1n z1c, z4], H1)) : callInf cfg 12 [.slice x0a x0n x0c, .slice x1a x1n x1c] prot H = some (Value.bool ((↑z0n : Int) == (↑z1n : Int)), H) :=
  fn_of2 a12 [.lo (.exit 0, [.slice z0a z0n z0c, .slice z1a z1n z1c, z4], H1), .e, .e, .e] (ai h1 (Eq.refl ((Value.bool ((↑z0n : Int) == (↑z1n : Int)), H) : Value × AHeap))) (by kernel_rfl) rfl
theorem f12_L0_0 {x0a : Option Addr} {x0n x0c : Nat} {x1a : Option Addr} {x1n x1c : Nat} {x5 : Int} {H0 : AHeap} {prot : Nat} {H : AHeap} {x14p x14o x14l : Nat} {x15a : Option Addr} {x15n x15c x18p x18o x18l : Nat} {x19a : Option Addr} {x19n x19c : Nat} {x20 : Bool} (h1 : x5 < (↑x1n : Int)) (h2 : aindexAddr cfg.P 22 (Value.slice x0a x0n x0c) (Value.int .i64 x5) = some (Value.pointer (some ⟨x14p, x14o, some x14l⟩))) (h3 : getCells H x14p x14l x14o 1 = some [Value.slice x15a x15n x15c]) (h4 : aindexAddr cfg.P 22 (Value.slice x1a x1n x1c) (Value.int .i64 x5) = some (Value.pointer (some ⟨x18p, x18o, some x18l⟩))) (h5 : getCells H x18p x18l x18o 1 = some [Value.slice x19a x19n x19c]) (h6 : callInf cfg 32 [Value.slice x15a x15n x15c, Value.slice x19a x19n x19c] (List.length H0) H = some (Value.bool x20, H)) (h7 : (!x20) = false) (h8 : Fit .i64 (x5 + 1)) : lpOf cfg a12 0 prot H0 ([.slice x0a x0n x0c, .slice x1a x1n x1c, .int .i64 x5], H) = some (Sum.inl ([Value.slice x0a x0n x0c, Value.slice x1a x1n x1c, Value.int .i64 (x5 + 1)], H)) :=
  lp_of2 [.e, .e, .b true, .v (.pointer (some ⟨x14p, x14o, some x14l⟩)), .v (.slice x15a x15n x15c), .v (.pointer (some ⟨x18p, x18o, some x18l⟩)), .v (.slice x19a x19n x19c), .v (.bool x20), .e, .b false, .e] (ai (decide_eq_true h1) (ai h2 (ai h3 (ai h4 (ai h5 (ai h6 (ai h7 (ai h8 (Eq.refl (Sum.inl ([Value.slice x0a x0n x0c, Value.slice x1a x1n x1c, Value.int .i64 (x5 + 1)], H) : LS ⊕ LO)))))))))) (by kernel_rfl)
theorem f12_L0_2 {x0a : Option Addr} {x0n x0c : Nat} {x1a : Option Addr} {x1n x1c : Nat} {x5 : Int} {H0 : AHeap} {prot : Nat} {H : AHeap} (h1 : ¬(x5 < (↑x1n : Int))) : lpOf cfg a12 0 prot H0 ([.slice x0a x0n x0c, .slice x1a x1n x1c, .int .i64 x5], H) = some (Sum.inr (Ex.exit 0, [Value.slice x0a x0n x0c, Value.slice x1a x1n x1c, Value.tuple { toList := [] }], H)) :=
  lp_of2 [.e, .e, .b false] (ai (decide_eq_false h1) (Eq.refl (Sum.inr (Ex.exit 0, [Value.slice x0a x0n x0c, Value.slice x1a x1n x1c, Value.tuple { toList := [] }], H) : LS ⊕ LO))) (by kernel_rfl)
end Go.Proofs.YtkemihfaohkoeaaDoor.Am11d
namespace Go.Proofs.YtkemihfaohkoeaaDoor.Am11d
open Go Go.Proofs.YtkemihfaohkoeaaDoor.Am
/-- A graph that was lent. -/
structure LG (H : AHeap) (x : Value) (G : List (List Int)) : Prop where
  ex : ∃ cs, Rd H 24 1 x G.length cs ∧ ∀ (i : Nat) (l : List Int), G[i]? = some l → ∃ r id, cs[i]? = some r ∧ LR H r l id
theorem LG.gr {H : AHeap} {x : Value} {G : List (List Int)} (h : LG H x G) : Gr H x G := by
  obtain ⟨cs, h1, h2⟩ := h.ex
  exact ⟨cs, h1, fun i l hl => by obtain ⟨r, id, a, b⟩ := h2 i l hl; exact ⟨r, a, b.rd⟩⟩
theorem LG.stay {H H' : AHeap} {x : Value} {G : List (List Int)} (h : LG H x G) (s : Stay none H H') : LG H' x G := by
  obtain ⟨cs, h1, h2⟩ := h.ex
  exact ⟨cs, h1.stay s, fun i l hl => by obtain ⟨r, id, a, b⟩ := h2 i l hl; exact ⟨r, id, a, b.stay s (by simp)⟩⟩
theorem LR.lt {H : AHeap} {r : Value} {l : List Int} {id : Nat} (h : LR H r l id) : id < H.length := by
  obtain ⟨_, _, _, h2⟩ := h.g
  exact (List.getElem?_eq_some_iff.1 h2).1
theorem loop9 {G : List (List Int)} {H0 : AHeap} {x0 : Value} (hg : Gr H0 x0 G) (hs : Short8 G) {prot : Nat} : ∀ (d v : Nat) (x4 : Value) (o4 : Option Nat) (cs : List Value) (H : AHeap), v + d = G.length → Stay none H0 H → Own H 24 1 x4 o4 v cs → (∀ id, o4 = some id → H0.length ≤ id) →
    (∀ (j : Nat) (l : List Int), j < v → G[j]? = some l → ∃ r id, cs[j]? = some r ∧ LR H r l id ∧ o4 ≠ some id) →
    ∃ x' o' cs' H', lpInf (lpOf cfg a5 0 prot H0) ([x0, x4, .int .i64 v], H) = some (.exit 0, [x'], H') ∧ Stay none H0 H' ∧ Own H' 24 1 x' o' G.length cs' ∧ (∀ id, o' = some id → H0.length ≤ id) ∧
      (∀ (j : Nat) (l : List Int), j < G.length → G[j]? = some l → ∃ r id, cs'[j]? = some r ∧ LR H' r l id)
  | 0, v, x4, o4, cs, H, hv, hst, hx, ho, hr => by
    have he : v = G.length := by omega
    subst he
    refine ⟨x4, o4, cs, H, ?_, hst, hx, ho, fun j l hj hl => by obtain ⟨r, id, a, b, _⟩ := hr j l hj hl; exact ⟨r, id, a, b⟩⟩
    obtain ⟨_, _, rfl⟩ := hg.len
    obtain ⟨_, _, rfl⟩ := hx.len
    exact lp_last (f5_L0_1 (by omega))
  | d + 1, v, x4, o4, cs, H, hv, hst, hx, ho, hr => by
    have hvG : v < G.length := by omega
    have hlv := hs.2 _ (List.getElem_mem hvG)
    have hl1 := hst.1
    obtain ⟨id0, L0, r0, a1, a2, a3⟩ := (hg.stay hst).row hvG
    obtain ⟨x6, H2, u1, u2, u4, u5⟩ := c32 hlv H0.length H a3
    have hx2 := hx.stay u4 (fun _ _ h => by cases h)
    have l2 := u4.1
    have h6 := u2.e
    have hcell : [x6].all isCell = true := by rw [h6]; rfl
    have hsl := hs.1
    obtain ⟨a', c', o', H3, s1, s2, s3, s4, s5, s6⟩ := own_app T22 hx2 (ecs := [x6]) rfl hcell (prot := H0.length) (room := true) ho (by omega) (by omega) (L := 1 * 1) rfl (el := [x6].length) rfl
    have hol : ∀ id, o4 = some id → id < H.length := fun id h => by
      rw [h] at hx
      exact (List.getElem?_eq_some_iff.1 hx.2.2.2.choose_spec.2).1
    have hcl : cs.length = v := by have := hx.1; omega
    obtain ⟨x', o2, cs', H', z1, z2, z3, z4, z5⟩ := loop9 hg hs (prot := prot) d (v + 1) _ (some o') (cs ++ [x6]) H3 (by omega) ((hst.trans u4).over s3 ho) s2 (fun id h => by cases h; exact s4) (fun j l hj hl => by
      by_cases he : j = v
      · subst he
        rw [List.getElem?_eq_getElem hvG] at hl
        cases hl
        refine ⟨x6, H.length, by rw [List.getElem?_append_right (by omega), hcl, Nat.sub_self]; rfl, u2.stay s3 (fun h => by have := hol _ h; omega), fun h => ?_⟩
        have h := Option.some.inj h
        cases hh : o4 with
        | none => have := s5 hh; omega
        | some k => have := s6 k hh; have := hol k hh; omega
      · obtain ⟨r, id, r1, r2, r3⟩ := hr j l (by omega) hl
        have hlow := r2.lt
        refine ⟨r, id, by rw [List.getElem?_append_left (by omega)]; exact r1, (r2.stay u4 (by simp)).stay s3 r3, fun h => ?_⟩
        have h := Option.some.inj h
        cases hh : o4 with
        | none => have := s5 hh; omega
        | some k => have := s6 k hh; exact r3 (by rw [hh, ← this, h]))
    refine ⟨x', o2, cs', H', ?_, z2, z3, z4, z5⟩
    obtain ⟨_, _, rfl⟩ := hg.len
    obtain ⟨_, _, rfl⟩ := hx.len
    obtain ⟨_, _, rfl⟩ := a3.len
    subst h6
    exact lp_next (f5_L0_0 (by omega) a1 a2 u1 s1 (fit64 (by omega) (by omega))) z1

theorem c9 {G : List (List Int)} (hs : Short8 G) {x0 : Value} (prot : Nat) {H : AHeap} (hg : Gr H x0 G) : ∃ x' H', callInf cfg 5 [x0] prot H = some (x', H') ∧ LG H' x' G ∧ Stay none H H' := by
  obtain ⟨x', o', cs', H', z1, z2, z3, z4, z5⟩ := loop9 hg hs (prot := prot) G.length 0 (.slice none 0 0) none [] H (by omega) (Stay.refl _ _) own_nil (fun id h => by cases h) (fun j l hj => by omega)
  obtain ⟨aG, cG, rfl⟩ := hg.len
  have hz3 := z3
  obtain ⟨ax, cx, hxe⟩ := z3.len
  cases ho : o' with
  | none =>
    rw [ho] at hz3
    have h0 : G.length = 0 := hz3.2.1
    have hG0 : G = [] := List.eq_nil_of_length_eq_zero (by omega)
    have hpf : pfin a5 H [x'] H' = (x', H) := by
      rw [pfin_eq, if_neg (by simp [a5])]
      rcases hz3.2.2 with hx | hx
      · rw [hx]; exact gc_plain rfl
      · rw [hx]; rfl
    refine ⟨x', H, ?_, ⟨[], ?_, fun i l hl => ?_⟩, Stay.refl _ _⟩
    · rw [hxe] at z1 hpf ⊢; exact f5_F_0 _ _ z1 hpf
    · subst hG0; exact ⟨rfl, .inl ⟨rfl, hz3.2.2⟩⟩
    · subst hG0; simp at hl
  | some id =>
    rw [ho] at hz3
    have hpos : 0 < G.length := hz3.2.1
    have hnp : cs'.all plain0 = false := by
      obtain ⟨r, id2, a, b⟩ := z5 0 _ (by omega) (List.getElem?_eq_getElem hpos)
      rw [Bool.eq_false_iff]
      intro h
      have := List.all_eq_true.1 h r (List.mem_of_getElem? a)
      rw [b.e] at this
      cases this
    have hpf : pfin a5 H [x'] H' = (x', H') := by
      rw [pfin_eq, if_neg (by simp [a5])]; exact gc_not hz3 hnp
    refine ⟨x', H', ?_, ⟨cs', z3.rd, fun i l hl => ?_⟩, z2⟩
    · rw [hxe] at z1 hpf ⊢; exact f5_F_0 _ _ z1 hpf
    · exact z5 i l (List.getElem?_eq_some_iff.1 hl).1 hl

theorem loop14 {G : List (List Int)} (hs : Short8 G) {x y : Value} {H0 H : AHeap} {prot : Nat} (hx : LG H x G) (hy : Gr H y G) : ∀ (d i : Nat), i + d = G.length →
    lpInf (lpOf cfg a12 0 prot H0) ([x, y, .int .i64 i], H) = some (.exit 0, [x, y, .tuple #[]], H)
  | 0, i, hi => by
    obtain ⟨_, _, rfl⟩ := hx.gr.len
    obtain ⟨_, _, rfl⟩ := hy.len
    exact lp_last (f12_L0_2 (by omega))
  | d + 1, i, hi => by
    have hil : i < G.length := by omega
    have hgl := hs.1
    obtain ⟨id2, L2, r2, p2, q2, k2⟩ := hy.row hil
    obtain ⟨cs, h1, h2⟩ := hx.ex
    obtain ⟨r, id, a, b⟩ := h2 i _ (List.getElem?_eq_getElem hil)
    obtain ⟨id1, L1, p1, q1⟩ := rd_at T22 h1 a
    have h35 := c35 (hs.2 _ (List.getElem_mem hil)) H0.length b k2
    have ih := loop14 hs hx hy (H0 := H0) (prot := prot) d (i + 1) (by omega)
    have he := b.e
    obtain ⟨_, _, rfl⟩ := hx.gr.len
    obtain ⟨_, _, rfl⟩ := hy.len
    obtain ⟨_, _, rfl⟩ := k2.len
    subst he
    exact lp_next (f12_L0_0 (by omega) p1 q1 p2 q2 h35 rfl (fit64 (by omega) (by omega))) ih
theorem c14 {G : List (List Int)} (hs : Short8 G) {x y : Value} (prot : Nat) {H : AHeap} (hx : LG H x G) (hy : Gr H y G) :
    callInf cfg 12 [x, y] prot H = some (.bool true, H) := by
  have h := loop14 hs hx hy (H0 := H) (prot := prot) G.length 0 (by omega)
  obtain ⟨_, _, rfl⟩ := hx.gr.len
  obtain ⟨_, _, rfl⟩ := hy.len
  have := f12_F_0 h
  simpa using this
end Go.Proofs.YtkemihfaohkoeaaDoor.Am11d
namespace Go.Proofs.YtkemihfaohkoeaaDoor.Am11d
open Go Go.Proofs.YtkemihfaohkoeaaDoor.Am
def mk (n : Nat → Nat) (j : Nat) : List Value := il (List.replicate (n j) (1000 + (j : Int)))
def gw (k j : Nat) : List Value := il (List.replicate k (2000 + (j : Int)))
structure Gro (B : Nat) (H : AHeap) (x0 : Value) (N : Nat) (r : Nat → Value) (n : Nat → Nat) (o : Nat → Option Nat) (i m : Nat) (x3 : Value) (o3 : Option Nat) (g : Nat → Value) (og : Nat → Option Nat) : Prop where
  rd : ∃ cs, Rd H 24 1 x0 N cs ∧ ∀ j, j < N → cs[j]? = some (r j)
  low : Low B x0
  rx : ∀ j, m ≤ j → j < N → RX H 3 (r j) (n j) (o j) (mk n j)
  gk : ∀ j, j < i → GK H 3 (r j) (g j) (n j) 40 (o j) (og j) (mk n j) (gw 40 j)
  x3 : Own H 24 1 x3 o3 i ((List.range i).map g)
  o3 : ∀ id, o3 = some id → B ≤ id
  lt : ∀ j, j < N → ∀ a, o j = some a → a < B
  le : B ≤ H.length
  dis : ∀ j, j < i → ∀ a, og j = some a → o j = some a ∨ B ≤ a
theorem stay_rx {H H' : AHeap} {x3 : Value} {o3 : Option Nat} {i : Nat} {cs : List Value} (h3 : Own H 24 1 x3 o3 i cs) (s : Stay o3 H H') {r : Value} {n : Nat} {o : Option Nat} {vs : List Value} (h : RX H 3 r n o vs) : RX H' 3 r n o vs := by
  cases o3 with
  | none => exact h.stay s (fun id _ e => by cases e)
  | some id =>
    obtain ⟨_, _, _, wr, _, hH⟩ := h3
    exact h.stayE hH (by decide) s
theorem stay_gk {H H' : AHeap} {x3 : Value} {o3 : Option Nat} {i : Nat} {cs : List Value} (h3 : Own H 24 1 x3 o3 i cs) (s : Stay o3 H H') {r g : Value} {n k : Nat} {o o' : Option Nat} {vs ws : List Value} (h : GK H 3 r g n k o o' vs ws) : GK H' 3 r g n k o o' vs ws := by
  cases o3 with
  | none => exact h.stay s (fun id _ e => by cases e)
  | some id =>
    obtain ⟨_, _, _, wr, _, hH⟩ := h3
    exact h.stayE hH (by decide) s
theorem loop15d {B : Nat} {x0 x3 : Value} {N : Nat} {r : Nat → Value} {n : Nat → Nat} {o : Nat → Option Nat} (hD : Dis N o) {prot : Nat} (hp : ∀ j, j < N → ∀ a, o j = some a → prot ≤ a) (hpB : prot ≤ B) (hN : N ≤ 1000000) {H0 : AHeap} {i : Nat} (hi : i < N) (hn : n i ≤ 1000000000) {o3 : Option Nat} {g : Nat → Value} {og : Nat → Option Nat} : ∀ (d k : Nat) (x7 : Value) (o' : Option Nat) (H : AHeap), k + d = 40 → Gro B H x0 N r n o i (i + 1) x3 o3 g og → GK H 3 (r i) x7 (n i) k (o i) o' (mk n i) (gw k i) → (∀ a, o' = some a → o i = some a ∨ B ≤ a) → (∀ j, j < i → ∀ a, og j = some a → o' ≠ some a) →
    ∃ y o2 H', lpInf (lpOf cfg a13 3 prot H0) ([x0, x3, .int .i64 i, x7, .int .i64 k], H) = some (.exit 6, [x0, x3, .int .i64 i, y], H') ∧ Gro B H' x0 N r n o i (i + 1) x3 o3 g og ∧ GK H' 3 (r i) y (n i) 40 (o i) o2 (mk n i) (gw 40 i) ∧ (∀ a, o2 = some a → o i = some a ∨ B ≤ a) ∧ (∀ j, j < i → ∀ a, og j = some a → o2 ≠ some a)
  | 0, k, x7, o', H, hk, hG, hK, h1, h2 => by
    have he : k = 40 := by omega
    subst he
    refine ⟨x7, o', H, ?_, hG, hK, h1, h2⟩
    obtain ⟨_, _, rfl⟩ := rows_len hG.rd
    obtain ⟨_, _, rfl⟩ := hG.x3.len
    obtain ⟨_, _, rfl⟩ := hK.glen
    exact lp_last (f13_L3_1 (by omega))
  | d + 1, k, x7, o', H, hk, hG, hK, h1, h2 => by
    have hle := hG.le
    obtain ⟨id, H2, q1, q2, q3, q4, q5⟩ := hK.app T34 (v := .int .i64 (2000 + (i : Int))) rfl (prot := prot) (fun a ha => by
      rcases h1 a ha with h | h
      · exact hp i hi a h
      · omega) (by omega) (by omega) (L := 1 * 1) rfl (el := 1) rfl
    have hgw : gw k i ++ [.int .i64 (2000 + (i : Int))] = gw (k + 1) i := by
      unfold gw il
      rw [List.replicate_succ', List.map_append]
      rfl
    rw [hgw] at q2
    have hl2 := q3.1
    -- whose object is it?
    have hid : o i = some id ∨ B ≤ id := by
      cases ho' : o' with
      | none => have := q5 ho'; exact .inr (by omega)
      | some a => have e := q4 a ho'; rw [e]; exact h1 a ho'
    have hnew : ∀ j, j < i → ∀ a, og j = some a → id ≠ a := fun j hj a ha e => by
      cases ho' : o' with
      | none =>
        have := q5 ho'
        have h3 := hG.gk j hj
        rw [ha] at h3
        have := h3.lt
        omega
      | some b => have e2 := q4 b ho'; exact h2 j hj a ha (by rw [ho']; rw [← e, e2])
    have h3o : ∀ b, o3 = some b → o' ≠ some b := fun b hb e => by
      rcases hK.gl with ⟨h, _⟩ | ⟨id2, wr, a, _, _, d2, _⟩
      · rw [h] at e; cases e
      · have h0 := hG.x3
        rw [hb] at h0
        obtain ⟨_, _, _, wr2, _, h4⟩ := h0
        rw [a] at e
        have := Option.some.inj e
        subst this
        rw [d2] at h4
        simp only [Option.some.injEq, AObj.cells.injEq] at h4
        exact absurd h4.2.1 (by decide)
    have hG2 : Gro B H2 x0 N r n o i (i + 1) x3 o3 g og := by
      refine ⟨?_, hG.low, fun j hj hjN => ?_, fun j hj => ?_, hG.x3.stay q3 h3o, hG.o3, hG.lt, by omega, hG.dis⟩
      · obtain ⟨cs, c1, c2⟩ := hG.rd
        refine ⟨cs, ?_, c2⟩
        rcases hK.gl with ⟨h, _⟩ | ⟨id2, wr, a, _, _, d2, _⟩
        · rw [h] at q3; exact c1.stay q3
        · rw [a] at q3; exact c1.stayE d2 (by decide) q3
      · refine (hG.rx j hj hjN).stay q3 (fun b hb e2 => ?_)
        rcases h1 b e2 with h | h
        · exact hD j i hjN hi (by omega) b hb h
        · have := hG.lt j hjN b hb; omega
      · exact (hG.gk j hj).stay q3 (fun b hb e2 => h2 j hj b hb e2)
    obtain ⟨y, o2, H', z1, z2⟩ := loop15d hD hp hpB hN (H0 := H0) hi hn d (k + 1) _ (some id) H2 (by omega) hG2 q2 (fun a ha => by cases ha; exact hid) (fun j hj a ha e => hnew j hj a ha (Option.some.inj e))
    refine ⟨y, o2, H', ?_, z2⟩
    obtain ⟨_, _, rfl⟩ := rows_len hG.rd
    obtain ⟨_, _, rfl⟩ := hG.x3.len
    obtain ⟨_, _, rfl⟩ := hK.glen
    exact lp_next (f13_L3_0 (by omega) (fit64 (by omega) (by omega)) q1 (fit64 (by omega) (by omega))) z1
end Go.Proofs.YtkemihfaohkoeaaDoor.Am11d
namespace Go.Proofs.YtkemihfaohkoeaaDoor.Am11d
open Go Go.Proofs.YtkemihfaohkoeaaDoor.Am
theorem loop15c {B : Nat} {x0 : Value} {N : Nat} {r : Nat → Value} {n : Nat → Nat} {o : Nat → Option Nat} (hD : Dis N o) {prot : Nat} (hp : ∀ j, j < N → ∀ a, o j = some a → prot ≤ a) (hpB : prot ≤ B) (hN : N ≤ 1000000) {H0 : AHeap} (hn : ∀ i, i < N → n i ≤ 1000000000) : ∀ (d i : Nat) (x3 : Value) (o3 : Option Nat) (g : Nat → Value) (og : Nat → Option Nat) (H : AHeap), i + d = N → Gro B H x0 N r n o i i x3 o3 g og →
    ∃ y o2 g2 og2 H', lpInf (lpOf cfg a13 2 prot H0) ([x0, x3, .int .i64 i], H) = some (.exit 4, [x0, y], H') ∧ Gro B H' x0 N r n o N N y o2 g2 og2
  | 0, i, x3, o3, g, og, H, hi, hG => by
    have he : i = N := by omega
    subst he
    refine ⟨x3, o3, g, og, H, ?_, hG⟩
    obtain ⟨_, _, rfl⟩ := rows_len hG.rd
    obtain ⟨_, _, rfl⟩ := hG.x3.len
    exact lp_last (f13_L2_1 (by omega))
  | d + 1, i, x3, o3, g, og, H, hi, hG => by
    have hiN : i < N := by omega
    obtain ⟨id, L, a1, a2⟩ := rows_at hG.rd hiN
    have hri := hG.rx i (Nat.le_refl _) hiN
    have hG1 : Gro B H x0 N r n o i (i + 1) x3 o3 g og := ⟨hG.rd, hG.low, fun j hj hjN => hG.rx j (by omega) hjN, hG.gk, hG.x3, hG.o3, hG.lt, hG.le, hG.dis⟩
    obtain ⟨y, o2, H2, z1, z2, z3, z4, z5⟩ := loop15d hD hp hpB hN (H0 := H0) hiN (hn i hiN) 40 0 (r i) (o i) H (by omega) hG1 hri.gk (fun a ha => .inl ha) (fun j hj a ha e => by
      rcases hG.dis j hj a ha with h | h
      · exact hD j i (by omega) hiN (by omega) a h e
      · have := hG.lt i hiN a e; omega)
    have hyl := z3.glen
    have hyc : [y].all isCell = true := by obtain ⟨_, _, rfl⟩ := hyl; rfl
    have hle := z2.le
    obtain ⟨a', c', o'', H3, s1, s2, s3, s4, s5, s6⟩ := own_app T22 z2.x3 (ecs := [y]) rfl hyc (prot := prot) (room := true) (fun id h => by have := z2.o3 id h; omega) (by omega) (by omega) (L := 1 * 1) rfl (el := [y].length) rfl
    have h3o : ∀ b, o3 = some b → o'' = b := s6
    have hob : B ≤ o'' := by
      cases ho : o3 with
      | none => have := s5 ho; omega
      | some b => rw [s6 b ho]; exact z2.o3 b ho
    have hmap : (List.range i).map g ++ [y] = (List.range (i + 1)).map (fun j => if j = i then y else g j) := by
      have e1 : (List.range i).map g = (List.range i).map (fun j => if j = i then y else g j) := by
        refine List.map_congr_left fun j hj => ?_
        have := List.mem_range.1 hj
        rw [if_neg (by omega)]
      rw [List.range_succ, List.map_append, e1, List.map_singleton, if_pos rfl]
    rw [hmap] at s2
    have hG3 : Gro B H3 x0 N r n o (i + 1) (i + 1) (.slice a' (i + 1) c') (some o'') (fun j => if j = i then y else g j) (fun j => if j = i then o2 else og j) := by
      refine ⟨?_, z2.low, fun j hj hjN => stay_rx z2.x3 s3 (z2.rx j hj hjN), fun j hj => ?_, s2, fun id h => by cases h; exact hob, z2.lt, Nat.le_trans hle s3.1, fun j hj a ha => ?_⟩
      · obtain ⟨cs, c1, c2⟩ := z2.rd
        exact ⟨cs, c1.stayLow z2.low s3 z2.o3, c2⟩
      · by_cases e : j = i
        · subst e
          rw [if_pos rfl, if_pos rfl]
          exact stay_gk z2.x3 s3 z3
        · rw [if_neg e, if_neg e]
          exact stay_gk z2.x3 s3 (z2.gk j (by omega))
      · by_cases e : j = i
        · subst e
          rw [if_pos rfl] at ha
          exact z4 a ha
        · rw [if_neg e] at ha
          exact z2.dis j (by omega) a ha
    obtain ⟨y', o2', g2, og2, H', w1, w2⟩ := loop15c hD hp hpB hN (H0 := H0) hn d (i + 1) _ _ _ _ H3 (by omega) hG3
    refine ⟨y', o2', g2, og2, H', ?_, w2⟩
    obtain ⟨_, _, rfl⟩ := rows_len hG.rd
    obtain ⟨_, _, rfl⟩ := hG.x3.len
    obtain ⟨_, _, hre⟩ := hri.len
    obtain ⟨_, _, rfl⟩ := hyl
    rw [hre] at a2 z1
    exact lp_next (f13_L2_0 (by omega) a1 a2 z1 s1 (fit64 (by omega) (by omega))) w1

theorem il_rep (k : Nat) (c : Int) : il (List.replicate k c) = List.replicate k (.int .i64 c) := by unfold il; rw [List.map_replicate]
theorem loop15f {B : Nat} {x0 x3 : Value} {N : Nat} {r : Nat → Value} {n : Nat → Nat} {o : Nat → Option Nat} (hN : N ≤ 1000000) {H0 : AHeap} {prot : Nat} {o3 : Option Nat} {g : Nat → Value} {og : Nat → Option Nat} {H : AHeap} (hG : Gro B H x0 N r n o N N x3 o3 g og) {i : Nat} (hi : i < N) (hn : n i ≤ 1000000000) : ∀ (d k : Nat), k + d = n i + 40 →
    lpInf (lpOf cfg a13 5 prot H0) ([x0, x3, .int .i64 i, .int .i64 k], H) = some (.exit 10, [x0, .tuple #[], x3, .int .i64 i], H)
  | 0, k, hk => by
    have h3 : ∃ cs, Rd H 24 1 x3 N cs ∧ ∀ j, j < N → cs[j]? = some (g j) := ⟨_, hG.x3.rd, fun j hj => by rw [List.getElem?_map, List.getElem?_range hj]; rfl⟩
    obtain ⟨i1, L1, a1, a2⟩ := rows_at h3 hi
    have hK := hG.gk i hi
    obtain ⟨_, _, rfl⟩ := rows_len hG.rd
    obtain ⟨_, _, rfl⟩ := rows_len h3
    obtain ⟨_, _, hge⟩ := hK.glen
    rw [hge] at a2
    exact lp_last (f13_L5_8 a1 a2 (by omega))
  | d + 1, k, hk => by
    have h3 : ∃ cs, Rd H 24 1 x3 N cs ∧ ∀ j, j < N → cs[j]? = some (g j) := ⟨_, hG.x3.rd, fun j hj => by rw [List.getElem?_map, List.getElem?_range hj]; rfl⟩
    obtain ⟨i1, L1, a1, a2⟩ := rows_at h3 hi
    obtain ⟨i2, L2, b1, b2⟩ := rows_at hG.rd hi
    have hK := hG.gk i hi
    obtain ⟨hg, hr⟩ := hK.rd
    have ih := loop15f hN (H0 := H0) (prot := prot) hG hi hn d (k + 1) (by omega)
    have hml : (mk n i).length = n i := by unfold mk; rw [il_rep, List.length_replicate]
    have f1 : Fit .i64 (1000 + (i : Int)) := fit64 (by omega) (by omega)
    have f2 : Fit .i64 (2000 + (i : Int)) := fit64 (by omega) (by omega)
    have fk : Fit .i64 ((k : Int) + 1) := fit64 (by omega) (by omega)
    obtain ⟨_, _, hge⟩ := hK.glen
    obtain ⟨_, _, hre⟩ := hK.rl
    obtain ⟨_, _, rfl⟩ := rows_len hG.rd
    obtain ⟨_, _, rfl⟩ := rows_len h3
    by_cases hk2 : k < n i
    · have e1 : (mk n i ++ gw 40 i)[k]? = some (.int .i64 (1000 + (i : Int))) := by
        rw [List.getElem?_append_left (by omega)]
        unfold mk
        rw [il_rep, List.getElem?_replicate, if_pos hk2]
      have e2 : (mk n i)[k]? = some (.int .i64 (1000 + (i : Int))) := by
        unfold mk
        rw [il_rep, List.getElem?_replicate, if_pos hk2]
      obtain ⟨i3, L3, c1, c2⟩ := rd_at T34 hg e1
      obtain ⟨i4, L4, d1, d2⟩ := rd_at T34 (hr (by omega)) e2
      rw [hge] at a2 c1
      rw [hre] at b2 d1
      exact lp_next (f13_L5_4 a1 a2 (by omega) b1 b2 (by omega) b1 b2 d1 d2 f1 (by simp) a1 a2 c1 c2 (by simp) b1 b2 (by omega) fk) ih
    · have e1 : (mk n i ++ gw 40 i)[k]? = some (.int .i64 (2000 + (i : Int))) := by
        rw [List.getElem?_append_right (by omega), hml]
        unfold gw
        rw [il_rep, List.getElem?_replicate, if_pos (by omega)]
      obtain ⟨i3, L3, c1, c2⟩ := rd_at T34 hg e1
      rw [hge] at a2 c1
      rw [hre] at b2
      exact lp_next (f13_L5_6 a1 a2 (by omega) b1 b2 (by omega) b1 b2 (by omega) a1 a2 c1 c2 f2 (by simp) fk) ih
theorem loop15e {B : Nat} {x0 x3 : Value} {N : Nat} {r : Nat → Value} {n : Nat → Nat} {o : Nat → Option Nat} (hN : N ≤ 1000000) {H0 : AHeap} {prot : Nat} {o3 : Option Nat} {g : Nat → Value} {og : Nat → Option Nat} {H : AHeap} (hG : Gro B H x0 N r n o N N x3 o3 g og) (hn : ∀ i, i < N → n i ≤ 1000000000) : ∀ (d i : Nat), i + d = N →
    lpInf (lpOf cfg a13 4 prot H0) ([x0, x3, .int .i64 i], H) = some (.exit 8, [.tuple #[]], H)
  | 0, i, hi => by
    obtain ⟨_, _, rfl⟩ := rows_len hG.rd
    obtain ⟨_, _, rfl⟩ := hG.x3.len
    exact lp_last (f13_L4_2 (by omega))
  | d + 1, i, hi => by
    have hf := loop15f hN (H0 := H0) (prot := prot) hG (show i < N by omega) (hn i (by omega)) (n i + 40) 0 (by omega)
    have ih := loop15e hN (H0 := H0) (prot := prot) hG hn d (i + 1) (by omega)
    obtain ⟨_, _, rfl⟩ := rows_len hG.rd
    obtain ⟨_, _, rfl⟩ := hG.x3.len
    exact lp_next (f13_L4_0 (by omega) hf (fit64 (by omega) (by omega))) ih

theorem c15 {x0 : Value} {N : Nat} {r : Nat → Value} {n : Nat → Nat} {o : Nat → Option Nat} {V : Nat → List Int} (hD : Dis N o) {prot : Nat} (hp : ∀ j, j < N → ∀ a, o j = some a → prot ≤ a) (hN : N ≤ 1000000) (hn : ∀ i, i < N → n i ≤ 1000000000) {H : AHeap} (hpH : prot ≤ H.length) (hr : Rows H x0 N r n o V) :
    ∃ H', callInf cfg 13 [x0] prot H = some (.bool true, H') := by
  obtain ⟨H1, y1, y2, y3⟩ := loop15a hD hp hN (H0 := H) (x3 := .slice none 0 0) ⟨_, _, _, rfl⟩ hn N 0 V H (by omega) hr (fun j hj => by omega)
  have hG : Gro H1.length H1 x0 N r n o 0 0 (.slice none 0 0) none (fun _ => .slice none 0 0) (fun _ => none) := by
    refine ⟨y2.rd, ?_, fun j _ hj => y2.rx j hj, fun j hj => (by omega), own_nil, fun id h => (by cases h), fun j hj a ha => ?_, Nat.le_refl _, fun j hj => (by omega)⟩
    · obtain ⟨cs, c1, _⟩ := y2.rd
      exact c1.low
    · have := y2.rx j hj
      rw [ha] at this
      exact this.lt
  obtain ⟨y, o2, g2, og2, H2, z1, z2⟩ := loop15c hD hp (by omega) hN (H0 := H) hn N 0 _ _ _ _ H1 (by omega) hG
  have he := loop15e hN (H0 := H) (prot := prot) z2 hn N 0 (by omega)
  refine ⟨H2, ?_⟩
  obtain ⟨_, _, rfl⟩ := rows_len hr.rd
  obtain ⟨_, _, rfl⟩ := z2.x3.len
  exact f13_F_0 y1 z1 he
end Go.Proofs.YtkemihfaohkoeaaDoor.Am11d
namespace Go.Proofs.YtkemihfaohkoeaaDoor.Am11d
open Go Go.Proofs.YtkemihfaohkoeaaDoor.Am
theorem one_apart {l : Value} {n : Nat} {o : Option Nat} {V : List Int} {H : AHeap} {prot : Nat} (hp : ∀ a, o = some a → prot ≤ a) (hpH : prot ≤ H.length) (hn : n ≤ 1000000000) (h : RX H 3 l n o (il V)) :
    ∃ H', callInf cfg 13 [.slice (some ⟨H.length, 0, some (1 * 1)⟩) 1 1] prot (H ++ [wo [l] 24]) = some (.bool true, H') := by
  have s : Stay none H (H ++ [wo [l] 24]) := Stay.app none H _
  refine c15 (N := 1) (r := fun _ => l) (n := fun _ => n) (o := fun _ => o) (V := fun _ => V) (fun i j hi hj hne => by omega) (fun j _ a ha => hp a ha) (by omega) (fun _ _ => hn) (by simp; omega) ⟨⟨[l], (own_new (e := 24) (s := 1) (n := 1) (cs := [l]) rfl (by omega) rfl rfl).rd, fun j hj => ?_⟩, fun j hj => h.stay s (fun _ _ e => by cases e)⟩
  have : j = 0 := by omega
  subst this; rfl
end Go.Proofs.YtkemihfaohkoeaaDoor.Am11d
set_option linter.unusedVariables false
open Go Go.Proofs.YtkemihfaohkoeaaDoor.Am
namespace Go.Proofs.YtkemihfaohkoeaaDoor.Am11d
theorem f3_F_0 {x0a : Option Addr} {x0n x0c : Nat} {x1 x2 : Int} {H : AHeap} {prot : Nat} {x19a : Option Addr} {x19n x19c : Nat} {H1 : AHeap} {x24aa : Option Addr} {x24an x24ac : Nat} {x24b : Bool} {x24c : Int} {H2 : AHeap} {x30a x30b : Int} {x37aa : Option Addr} {x37an x37ac : Nat} {x37b : Bool} {x37c : Int} {H3 : AHeap} {x43a x43b : Int} {x48 : Bool} {x56 x67 : Int} {x74 x79 : Bool} {H4 : AHeap} {x82 : Bool} (h1 : callInf cfg 5 [Value.slice x0a x0n x0c] (List.length H) H = some (Value.slice x19a x19n x19c, H1)) (h2 : callInf cfg 6 [Value.slice x19a x19n x19c, Value.int .i64 x1, Value.int .i64 x2] (List.length H) H1 = some (Value.tuple { toList := [Value.slice x24aa x24an x24ac, Value.bool x24b, Value.int .i64 x24c] }, H2)) (h3 : callInf cfg 7 [Value.slice x19a x19n x19c] (List.length H) H2 = some (Value.tuple { toList := [Value.int .i64 x30a, Value.int .i64 x30b] }, H2)) (h4 : callInf cfg 8 [Value.slice x0a x0n x0c, Value.int .i64 x1, Value.int .i64 x2] (List.length H) H2 = some (Value.tuple { toList := [Value.slice x37aa x37an x37ac, Value.bool x37b, Value.int .i64 x37c] }, H3)) (h5 : callInf cfg 9 [Value.slice x0a x0n x0c] (List.length H) H3 = some (Value.tuple { toList := [Value.int .i64 x43a, Value.int .i64 x43b] }, H3)) (h6 : callInf cfg 10 [Value.slice x24aa x24an x24ac, Value.slice x37aa x37an x37ac] (List.length H) H3 = some (Value.bool x48, H3)) (h7 : x48 = true) (h8 : (x24b == x37b) = true) (h9 : callInf cfg 11 [Value.int .i64 x24c] (List.length H) H3 = some (Value.int .i64 x56, H3)) (h10 : (x56 == x37c) = true) (h11 : (x30a == x43a) = true) (h12 : callInf cfg 11 [Value.int .i64 x30b] (List.length H) H3 = some (Value.int .i64 x67, H3)) (h13 : (x67 == x43b) = true) (h14 : callInf cfg 12 [Value.slice x19a x19n x19c, Value.slice x0a x0n x0c] (List.length H) H3 = some (Value.bool x74, H3)) (h15 : x74 = true) (h16 : callInf cfg 13 [Value.slice (some ⟨List.length H3, 0, some (1 * 1)⟩) 1 1] (List.length H) (H3 ++ [wo [Value.slice x24aa x24an x24ac] 24]) = some (Value.bool x79, H4)) (h17 : x79 = true) (h18 : callInf cfg 14 [] (List.length H) H4 = some (Value.bool x82, H4)) : callInf cfg 3 [.slice x0a x0n x0c, .int .i64 x1, .int .i64 x2] prot H = some (Value.bool x82, H) :=
  fn_of2 a3 [.r (.slice x19a x19n x19c) H1, .r (.tuple #[.slice x24aa x24an x24ac, .bool x24b, .int .i64 x24c]) H2, .v (.tuple #[.int .i64 x30a, .int .i64 x30b]), .r (.tuple #[.slice x37aa x37an x37ac, .bool x37b, .int .i64 x37c]) H3, .v (.tuple #[.int .i64 x43a, .int .i64 x43b]), .v (.bool x48), .b true, .b true, .b true, .e, .b true, .b true, .b true, .v (.int .i64 x56), .b true, .b true, .e, .b true, .b true, .b true, .b true, .e, .b true, .b true, .b true, .v (.int .i64 x67), .b true, .b true, .e, .b true, .b true, .b true, .b true, .v (.bool x74), .b true, .b true, .b true, .e, .b true, .r (.bool x79) H4, .b true, .b true, .v (.bool x82), .b true] (ai h1 (ai h2 (ai h3 (ai h4 (ai h5 (ai h6 (ai h7 (ai h7 (ai h7 (ai h7 (ai h8 (ai h8 (ai h9 (ai h8 (ai h8 (ai h8 (ai h10 (ai h10 (ai h10 (ai h10 (ai h11 (ai h11 (ai h12 (ai h11 (ai h11 (ai h11 (ai h13 (ai h13 (ai h13 (ai h14 (ai h13 (ai h15 (ai h15 (ai h15 (ai h16 (ai h15 (ai h17 (ai h18 (ai h17 (Eq.refl ((Value.bool x82, H) : Value × AHeap))))))))))))))))))))))))))))))))))))))))) (by kernel_rfl) rfl
end Go.Proofs.YtkemihfaohkoeaaDoor.Am11d
