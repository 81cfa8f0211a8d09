/- A part of the proof of a given statement: S23g_Ap, P23_54, Sp23_C54, AmSet, AmLow, AmHt, P23_55, Sp23_C55, AmHtW, P23_57, Sp23_C57, S23g_Aq, S23g_E, P23g_63, S23g_F, S23g_G, S23g_W, Law23g_4, S23g_P, AmSets, S23g_Q, Sp23_Ed, P23_3, Law23_3, Sp23_Lg, P23_30, Sp23_C30, P23_31, Sp23_C31, Sp23_Gr, Sp23_C31b, P23_28, P23_52, P23_70. No condition. -/
import Derived.Test.YthjkodbinkiifaaPart12
namespace Go.Proofs.Ythjkodbinkiifaa.Am23g
open Go Go.Proofs.Ythjkodbinkiifaa.Am Am23
/-! A row grows, by a call that protects less. -/
theorem Out.appP {B p : Nat} (hp : p ≤ B) {H : AHeap} {x3 : Value} {N : Nat} {r : Nat → Value} {o : Nat → Option Nat} {o3 : Nat} {T : Nat → List Nat} (h : Out B H x3 N r o o3 T) {u : Nat} (hu : u < N) (v : Nat) {room : Bool} (hn : (T u).length ≤ 10000000) (hB : B ≤ H.length) :
  ∃ a' c' H2 H3 id3 L3, aindexAddr cfg.P 86 x3 (.int .i64 (u : Nat)) = some (.pointer (some ⟨id3, u, some L3⟩)) ∧ getCells H id3 L3 u 1 = some [r u] ∧
   aappend cfg.P p room 22 22 (r u) (.slice (some ⟨H.length, 0, some (1 * 1)⟩) 1 1) (H ++ [wo [.int .i64 (v : Int)] 3]) = some (.slice a' ((T u).length + 1) c', H2) ∧
   setCells H2 p id3 L3 u [.slice a' ((T u).length + 1) c'] = some H3 ∧ (∃ r' o', Out B H3 x3 N r' o' o3 (addE T u v)) ∧ (∀ q, q < B → H3[q]? = H[q]?) ∧ B ≤ H3.length := by
 have hru := h.rx u hu
 obtain ⟨a', c', ou, H2, q1, q2, q3, q4, q5, q6⟩ := own_app T34 hru (ecs := [.int .i64 (v : Int)]) rfl rfl (prot := p) (room := room) (fun id e => Nat.le_trans hp (h.bo u hu id e)) (Nat.le_trans hp hB) (by omega) (L := 1 * 1) rfl (el := [Value.int .i64 (v : Int)].length) rfl
 obtain ⟨id, e3, p1, p2⟩ := own_at T22 h.x3 (range_at r hu)
 cases e3
 have hx2 : Own H2 22 1 x3 (some o3) N ((List.range N).map r) := by
  cases ho : o u with
  | none => rw [ho] at q3; exact h.x3.stay q3 (fun _ _ e => by cases e)
  | some a =>
   rw [ho] at q3 hru
   obtain ⟨_, _, _, wr, _, hH⟩ := hru
   exact h.x3.stayE hH (by decide) q3
 obtain ⟨id, H3, e3, s1, s2, s3, s4, s5⟩ := own_setS T22 hx2 (i := u) (j := 0) hu (vs := [.slice a' ((T u).length + 1) c']) (by simp) rfl (prot := p) (fun id e => by cases e; exact Nat.le_trans hp h.b3)
 cases e3
 obtain ⟨_, _, _, wr3, _, hH3⟩ := hx2
 have hput : putList ((List.range N).map r) (u * 1 + 0) [.slice a' ((T u).length + 1) c'] = (List.range N).map (fun j => if j = u then .slice a' ((T u).length + 1) c' else r j) := by
  rw [Nat.mul_one, Nat.add_zero, put_one _ (by simp; exact hu)]
  apply List.ext_getElem?
  intro j
  by_cases e : j = u
  ·subst e
   rw [List.getElem?_set_self (by simp; exact hu), range_at _ hu, if_pos rfl]
  ·rw [List.getElem?_set_ne (fun h => e h.symm), List.getElem?_map, List.getElem?_map]
   by_cases hj : j < N
   ·rw [List.getElem?_range hj]; simp [e]
   ·rw [List.getElem?_eq_none (by simp; omega)]; rfl
 rw [hput] at s3
 have hil : il (nl (T u)) ++ [Value.int .i64 (v : Int)] = il (nl (T u ++ [v])) := by simp [il, nl]
 rw [hil] at q2
 rw [Nat.mul_one, Nat.add_zero] at s2
 refine ⟨a', c', H2, H3, o3, _, p1, p2, q1, s2, ⟨_, fun j => if j = u then some ou else o j, s3, fun j hj => ?_, h.b3, fun j hj a ha => ?_, ?_⟩, fun q hq => ?_, ?_⟩
 ·by_cases e : j = u
  ·subst e
   rw [if_pos rfl, if_pos rfl]
   unfold addE
   rw [if_pos rfl, List.length_append]
   exact q2.stayE hH3 (by decide) s4
  ·rw [if_neg e, if_neg e]
   unfold addE
   rw [if_neg e]
   exact ((h.rx j hj).stay q3 (fun id e1 e2 => h.dis j u hj hu e id e1 e2)).stayE hH3 (by decide) s4
 ·by_cases e : j = u
  ·subst e
   rw [if_pos rfl] at ha
   cases ha
   cases hou : o j with
   | none => exact Nat.le_trans hB (q5 hou)
   | some a0 => rw [q6 a0 hou]; exact h.bo j hj a0 hou
  ·rw [if_neg e] at ha
   exact h.bo j hj a ha
 ·have hnew : ∀ j, j < N → j ≠ u → o j ≠ some ou := fun j hj hne e => by
   cases ho : o u with
   | none =>
    have h1 := q5 ho
    have h2 := h.rx j hj
    rw [e] at h2
    have := own_lt h2
    omega
   | some a =>
    have h1 := q6 a ho
    exact h.dis j u hj hu hne ou e (by rw [ho, h1])
  intro i j hi hj hne a ha hb
  simp only at ha hb
  by_cases e1 : i = u
  ·have e2 : j ≠ u := fun e2 => hne (by rw [e1, e2])
   rw [if_pos e1] at ha
   rw [if_neg e2] at hb
   cases ha
   exact hnew j hj e2 hb
  ·rw [if_neg e1] at ha
   by_cases e2 : j = u
   ·rw [if_pos e2] at hb
    cases hb
    exact hnew i hi e1 ha
   ·rw [if_neg e2] at hb
    exact h.dis i j hi hj hne a ha hb
 ·have hb3 := h.b3
  rw [s4.2 q (by have := q3.1; omega) (fun e => by have := Option.some.inj e; omega)]
  exact q3.2 q (by omega) (fun e => by have := h.bo u hu q e; omega)
 ·have := q3.1; have := s4.1; omega

end Go.Proofs.Ythjkodbinkiifaa.Am23g
set_option linter.unusedVariables false
open Go Go.Proofs.Ythjkodbinkiifaa.Am
namespace Go.Proofs.Ythjkodbinkiifaa.Am23
section
variable {x0a x8a x16 x17 x21 x24 : Int}
variable {x0ba x0ca x8ba x8ca x9a x11a x15a z4a x3a x4a x41a x44a : Option Addr}
variable {x0bn x0bc x0cn x0cc prot x8bn x8bc x8cn x8cc x9n x9c x11n x11c x15n x15c z4n z4c x1p x1o x1l x3n x3c x4n x4c x20p x20o x20l x28p x28o x28l x33p x33o x33l x40p x40o x40l x41n x41c x44n x44c x45p x45o x45l : Nat}
variable {H H1 H2 H0 H3 : AHeap}
variable {x29 x34 : Bool}
theorem f54_F_0 (rv : Value) (rH : AHeap) (h1 : [vI x0a, vS x0ba x0bn x0bc, vS x0ca x0cn x0cc].all isCell = true) (h2 : getCells (H ++ [vo [vI x0a, vS x0ba x0bn x0bc, vS x0ca x0cn x0cc] 25]) H.length 3 0 3 = some [vI x8a, vS x8ba x8bn x8bc, vS x8ca x8cn x8cc]) (h3 : cI 53 [Value.agg #[vI x8a, vS x8ba x8bn x8bc, vS x8ca x8cn x8cc]] H.length (H ++ [vo [vI x0a, vS x0ba x0bn x0bc, vS x0ca x0cn x0cc] 25]) = some (vS x9a x9n x9c, H1)) (h4 : getCells H1 H.length 3 (0 + 2) 1 = some [vS x11a x11n x11c]) (h5 : 0 ≤ (↑x11n : Int)) (h6 : (↑x11n : Int) = (↑x11n : Int)) (h7 : (↑x11n : Int) ≤ 9223372036854775807) (h8 : (↑24 : Int) * (↑x11n : Int) ≤ 2 ^ 48) (h9 : getCells (H1 ++ [AObj.cells (repCells [vS none 0 0] (↑x11n : Int).toNat) 22 (repCells [vS none 0 0] (↑x11n : Int).toNat).length OMode.row]) H.length 3 (0 + 1) 1 = some [vS x15a x15n x15c]) (h10 : lI a54 0 prot H ([vP H.length 0 3, vS x9a x9n x9c, vS (some ⟨H1.length, 0, some ((↑x11n : Int).toNat * 1)⟩) (↑x11n : Int).toNat (↑x11n : Int).toNat, vS x15a x15n x15c, vI (↑x15n : Int), vI 0], H1 ++ [AObj.cells (repCells [vS none 0 0] (↑x11n : Int).toNat) 22 (repCells [vS none 0 0] (↑x11n : Int).toNat).length OMode.row]) = some (Ex.exit 0, [vS z4a z4n z4c], H2)) (h11 : pfin a54 H [vS z4a z4n z4c] H2 = (rv, rH)) : callInf cfg 54 [.agg #[.int .i64 x0a, .slice x0ba x0bn x0bc, .slice x0ca x0cn x0cc]] prot H = some (rv, rH) :=
 fn_of2 a54 [.e, .v (.agg #[vI x8a, vS x8ba x8bn x8bc, vS x8ca x8cn x8cc]), .r (vS x9a x9n x9c) H1, .v (vS x11a x11n x11c), .e, .e, .v (vS x15a x15n x15c), .e, .lo (.exit 0, [vS z4a z4n z4c], H2)] (ai h1 (ai h2 (ai h3 (ai h4 (ai h5 (ai h6 (ai h7 (ai h8 (ai h9 (ai h10 h11)))))))))) (by kernel_rfl) rfl
theorem f54_L0_0 (h1 : x17 < x16) (h2 : aX 22 (vS x15a x15n x15c) (vI x17) = some (vP x20p x20o x20l)) (h3 : getCells H x20p x20l x20o 1 = some [vI x21]) (h4 : getCells H x1p x1l (x1o + 0) 1 = some [vI x24]) (h5 : x24 ≠ 0) (h6 : Fit .i64 (x17.tdiv x24)) (h7 : aX 23 (vS x3a x3n x3c) (vI (x17.tdiv x24)) = some (vP x28p x28o x28l)) (h8 : getCells H x28p x28l x28o 1 = some [Value.bool x29]) (h9 : x29 = true) (h10 : aX 23 (vS x3a x3n x3c) (vI x21) = some (vP x33p x33o x33l)) (h11 : getCells H x33p x33l x33o 1 = some [Value.bool x34]) (h12 : x34 = true) (h13 : aX 86 (vS x4a x4n x4c) (vI (x17.tdiv x24)) = some (vP x40p x40o x40l)) (h14 : getCells H x40p x40l x40o 1 = some [vS x41a x41n x41c]) (h15 : aappend cfg.P H0.length true 22 22 (vS x41a x41n x41c) (vS (some ⟨H.length, 0, some (1 * 1)⟩) 1 1) (H ++ [wo [vI x21] 3]) = some (vS x44a x44n x44c, H2)) (h16 : aX 86 (vS x4a x4n x4c) (vI (x17.tdiv x24)) = some (vP x45p x45o x45l)) (h17 : 1 = 1) (h18 : setCells H2 H0.length x45p x45l x45o [vS x44a x44n x44c] = some H3) (h19 : Fit .i64 (x17 + 1)) : lpOf cfg a54 0 prot H0 ([.pointer (some ⟨x1p, x1o, some x1l⟩), .slice x3a x3n x3c, .slice x4a x4n x4c, .slice x15a x15n x15c, .int .i64 x16, .int .i64 x17], H) = some (Sum.inl ([Value.pointer (some ⟨x1p, x1o, some x1l⟩), Value.slice x3a x3n x3c, Value.slice x4a x4n x4c, Value.slice x15a x15n x15c, Value.int .i64 x16, Value.int .i64 (x17 + 1)], H3)) :=
 lp_of2 [.e, .b true, .v (vP x20p x20o x20l), .v (vI x21), .v (vI x24), .e, .v (vP x28p x28o x28l), .v (.bool x29), .b true, .b true, .b true, .v (vP x33p x33o x33l), .b true, .v (.bool x34), .b true, .b true, .v (vP x40p x40o x40l), .v (vS x41a x41n x41c), .e, .r (vS x44a x44n x44c) H2, .v (vP x45p x45o x45l), .h H3, .e] (ai (decide_eq_true h1) (ai h2 (ai h3 (ai h4 (ai h5 (ai h6 (ai h7 (ai h8 (ai h9 (ai h9 (ai h9 (ai h10 (ai h9 (ai h11 (ai h9 (ai h12 (ai h13 (ai h14 (ai h15 (ai h16 (ai h17 (ai h18 (ai h19 (Eq.refl (Sum.inl ([vP x1p x1o x1l, vS x3a x3n x3c, vS x4a x4n x4c, vS x15a x15n x15c, vI x16, vI (x17 + 1)], H3) : LS ⊕ LO))))))))))))))))))))))))) (by kernel_rfl)
theorem f54_L0_1 (h1 : x17 < x16) (h2 : aX 22 (vS x15a x15n x15c) (vI x17) = some (vP x20p x20o x20l)) (h3 : getCells H x20p x20l x20o 1 = some [vI x21]) (h4 : getCells H x1p x1l (x1o + 0) 1 = some [vI x24]) (h5 : x24 ≠ 0) (h6 : Fit .i64 (x17.tdiv x24)) (h7 : aX 23 (vS x3a x3n x3c) (vI (x17.tdiv x24)) = some (vP x28p x28o x28l)) (h8 : getCells H x28p x28l x28o 1 = some [Value.bool x29]) (h9 : x29 = true) (h10 : aX 23 (vS x3a x3n x3c) (vI x21) = some (vP x33p x33o x33l)) (h11 : getCells H x33p x33l x33o 1 = some [Value.bool x34]) (h12 : x34 = false) (h13 : Fit .i64 (x17 + 1)) : lpOf cfg a54 0 prot H0 ([.pointer (some ⟨x1p, x1o, some x1l⟩), .slice x3a x3n x3c, .slice x4a x4n x4c, .slice x15a x15n x15c, .int .i64 x16, .int .i64 x17], H) = some (Sum.inl ([Value.pointer (some ⟨x1p, x1o, some x1l⟩), Value.slice x3a x3n x3c, Value.slice x4a x4n x4c, Value.slice x15a x15n x15c, Value.int .i64 x16, Value.int .i64 (x17 + 1)], H)) :=
 lp_of2 [.e, .b true, .v (vP x20p x20o x20l), .v (vI x21), .v (vI x24), .e, .v (vP x28p x28o x28l), .v (.bool x29), .b true, .b true, .b true, .v (vP x33p x33o x33l), .b true, .v (.bool x34), .b true, .b false, .e] (ai (decide_eq_true h1) (ai h2 (ai h3 (ai h4 (ai h5 (ai h6 (ai h7 (ai h8 (ai h9 (ai h9 (ai h9 (ai h10 (ai h9 (ai h11 (ai h9 (ai h12 (ai h13 (Eq.refl (Sum.inl ([vP x1p x1o x1l, vS x3a x3n x3c, vS x4a x4n x4c, vS x15a x15n x15c, vI x16, vI (x17 + 1)], H) : LS ⊕ LO))))))))))))))))))) (by kernel_rfl)
theorem f54_L0_2 (h1 : x17 < x16) (h2 : aX 22 (vS x15a x15n x15c) (vI x17) = some (vP x20p x20o x20l)) (h3 : getCells H x20p x20l x20o 1 = some [vI x21]) (h4 : getCells H x1p x1l (x1o + 0) 1 = some [vI x24]) (h5 : x24 ≠ 0) (h6 : Fit .i64 (x17.tdiv x24)) (h7 : aX 23 (vS x3a x3n x3c) (vI (x17.tdiv x24)) = some (vP x28p x28o x28l)) (h8 : getCells H x28p x28l x28o 1 = some [Value.bool x29]) (h9 : x29 = false) (h10 : Fit .i64 (x17 + 1)) : lpOf cfg a54 0 prot H0 ([.pointer (some ⟨x1p, x1o, some x1l⟩), .slice x3a x3n x3c, .slice x4a x4n x4c, .slice x15a x15n x15c, .int .i64 x16, .int .i64 x17], H) = some (Sum.inl ([Value.pointer (some ⟨x1p, x1o, some x1l⟩), Value.slice x3a x3n x3c, Value.slice x4a x4n x4c, Value.slice x15a x15n x15c, Value.int .i64 x16, Value.int .i64 (x17 + 1)], H)) :=
 lp_of2 [.e, .b true, .v (vP x20p x20o x20l), .v (vI x21), .v (vI x24), .e, .v (vP x28p x28o x28l), .v (.bool x29), .b false, .b false, .b false, .b false, .b false, .b false, .e] (ai (decide_eq_true h1) (ai h2 (ai h3 (ai h4 (ai h5 (ai h6 (ai h7 (ai h8 (ai h9 (ai h9 (ai h9 (ai h9 (ai h9 (ai (Eq.refl false) (ai h10 (Eq.refl (Sum.inl ([vP x1p x1o x1l, vS x3a x3n x3c, vS x4a x4n x4c, vS x15a x15n x15c, vI x16, vI (x17 + 1)], H) : LS ⊕ LO))))))))))))))))) (by kernel_rfl)
theorem f54_L0_3 (h1 : ¬(x17 < x16)) : lpOf cfg a54 0 prot H0 ([.pointer (some ⟨x1p, x1o, some x1l⟩), .slice x3a x3n x3c, .slice x4a x4n x4c, .slice x15a x15n x15c, .int .i64 x16, .int .i64 x17], H) = some (Sum.inr (Ex.exit 0, [Value.slice x4a x4n x4c], H)) :=
 lp_of2 [.e, .b false] (ai (decide_eq_false h1) (Eq.refl (Sum.inr (Ex.exit 0, [vS x4a x4n x4c], H) : LS ⊕ LO))) (by kernel_rfl)
end
end Go.Proofs.Ythjkodbinkiifaa.Am23
namespace Go.Proofs.Ythjkodbinkiifaa.Am23
open Go Go.Proofs.Ythjkodbinkiifaa.Am
open Am23g (addE Out Mine out_start gc_mine Gr nl)
/-! The graph of the states that are on a way to an accepted one. -/
noncomputable def uB (k : Nat) (xs : List Int) (bs : List Bool) : Nat → Bool := fun s => (useL k xs bs).getD s false
def inGo (k : Nat) (xs : List Int) (U : Nat → Bool) : Nat → Nat → (Nat → List Nat) → Nat → List Nat
 | 0, _, T => T
 | d + 1, i, T => inGo k xs U d (i + 1) (if U (i / k) && U (xs.getD i 0).toNat then addE T (i / k) (xs.getD i 0).toNat else T)
theorem inGo_add {k : Nat} {xs : List Int} {U : Nat → Bool} : ∀ (a b i : Nat) (T : Nat → List Nat), inGo k xs U (a + b) i T = inGo k xs U b (i + a) (inGo k xs U a i T)
 | 0, b, i, T => by rw [Nat.zero_add]; rfl
 | a + 1, b, i, T => by rw [show a + 1 + b = (a + b) + 1 by omega, inGo, inGo, inGo_add a b, show i + 1 + a = i + (a + 1) by omega]
/-- A state's targets, of those that are useful. -/
def inL (k : Nat) (xs : List Int) (U : Nat → Bool) (s : Nat) : List Nat := if U s then ((List.range k).map (tgt k xs s)).filter U else []
theorem inGo_row {k : Nat} {xs : List Int} {U : Nat → Bool} (s : Nat) : ∀ (d c : Nat) (T : Nat → List Nat), c + d = k → inGo k xs U d (s * k + c) T = fun j => if j = s then T s ++ (if U s then ((List.range' c d).map (tgt k xs s)).filter U else []) else T j
 | 0, c, T, h => by
  funext j
  rw [inGo]
  by_cases hj : j = s
  ·subst hj; simp
  ·rw [if_neg hj]
 | d + 1, c, T, h => by
  have hdiv : (s * k + c) / k = s := by rw [Nat.mul_comm, Nat.mul_add_div (by omega), Nat.div_eq_of_lt (by omega), Nat.add_zero]
  rw [inGo, hdiv, Nat.add_assoc, inGo_row s d (c + 1) _ (by omega)]
  funext j
  have ht : (xs.getD (s * k + c) 0).toNat = tgt k xs s c := rfl
  rw [ht, List.range'_succ, List.map_cons, List.filter_cons]
  by_cases hj : j = s
  ·subst hj
   rw [if_pos rfl, if_pos rfl]
   cases hU : U j with
   | false => simp
   | true =>
    cases hV : U (tgt k xs j c) with
    | false => simp
    | true => simp [addE]
  ·rw [if_neg hj, if_neg hj]
   split
   ·unfold addE; rw [if_neg hj]
   ·rfl
theorem inGo_all {k : Nat} {xs : List Int} {U : Nat → Bool} : ∀ (d s : Nat) (T : Nat → List Nat), inGo k xs U (d * k) (s * k) T = fun j => if s ≤ j ∧ j < s + d then T j ++ inL k xs U j else T j
 | 0, s, T => by
  funext j
  rw [Nat.zero_mul, inGo, if_neg (by omega)]
 | d + 1, s, T => by
  rw [show (d + 1) * k = k + d * k by rw [Nat.add_mul, Nat.one_mul, Nat.add_comm], inGo_add, show s * k + k = (s + 1) * k by rw [Nat.add_mul, Nat.one_mul], inGo_all d (s + 1)]
  have h := inGo_row (k := k) (xs := xs) (U := U) s k 0 T (by omega)
  rw [Nat.add_zero] at h
  rw [h]
  funext j
  by_cases hj : j = s
  ·subst hj
   have e1 : ¬ (j + 1 ≤ j ∧ j < j + 1 + d) := by omega
   have e2 : j ≤ j ∧ j < j + (d + 1) := by omega
   simp only [if_neg e1, if_pos e2, if_true]
   rw [← List.range_eq_range']; rfl
  ·simp only [if_neg hj]
   by_cases h1 : s + 1 ≤ j ∧ j < s + 1 + d
   ·rw [if_pos h1, if_pos (by omega)]
   ·rw [if_neg h1, if_neg (by omega)]
theorem inL_len (k : Nat) (xs : List Int) (U : Nat → Bool) (s : Nat) : (inL k xs U s).length ≤ k := by
 unfold inL
 split
 ·have := List.length_filter_le U ((List.range k).map (tgt k xs s))
  simpa using this
 ·simp
theorem use_get {k : Nat} {xs : List Int} {bs : List Bool} {s : Nat} (h : s < bs.length) : (bll (useL k xs bs))[s]? = some (.bool (uB k xs bs s)) := by
 have hl : (useL k xs bs).length = bs.length := by simp [useL]
 unfold bll uB
 rw [List.getElem?_map, List.getElem?_eq_getElem (by omega), List.getD_eq_getElem?_getD, List.getElem?_eq_getElem (by omega)]
 rfl
theorem loop54 {k : Nat} {xs : List Int} {bs : List Bool} (hG : Good k xs bs) {H0 : AHeap} {prot : Nat} {vN vA x3 x4 : Value} {o4 : Nat} {Hb : AHeap} (hb : Hb[H0.length]? = some (bx k vN vA)) (hN : Rd Hb 3 1 vN xs.length (il xs)) (hU : Rd Hb 4 1 x3 bs.length (bll (useL k xs bs))) : ∀ (d i : Nat) (T : Nat → List Nat) (r : Nat → Value) (o : Nat → Option Nat) (H : AHeap), i + d = xs.length → Out Hb.length H x4 bs.length r o o4 T → Stay none Hb H → H0.length ≤ Hb.length → (∀ j, (T j).length ≤ i) →
  ∃ r' o' H', lpInf (lpOf cfg a54 0 prot H0) ([.pointer (some ⟨H0.length, 0, some 3⟩), x3, x4, vN, .int .i64 xs.length, .int .i64 i], H) = some (.exit 0, [x4], H') ∧ Out Hb.length H' x4 bs.length r' o' o4 (inGo k xs (uB k xs bs) d i T) ∧ Stay none Hb H'
 | 0, i, T, r, o, H, hi, hO, hst, hle, hl => by
  refine ⟨r, o, H, ?_, hO, hst⟩
  obtain ⟨_, _, rfl⟩ := hN.len
  obtain ⟨_, _, rfl⟩ := hU.len
  obtain ⟨_, _, rfl⟩ := hO.x3.len
  exact lp_last (f54_L0_3 (by omega))
 | d + 1, i, T, r, o, H, hi, hO, hst, hle, hl => by
  have hk := hG.k1
  have hn5 := hG.n5
  have hk8 := hG.k8
  have hxl := hG.nx
  have hb8 : bs.length * k ≤ 512 * 8 := Nat.mul_le_mul hn5 hk8
  have hil : i < xs.length := by omega
  obtain ⟨t, ht, htl⟩ := hG.r i xs[i] (List.getElem?_eq_getElem hil)
  have hs : i / k < bs.length := Nat.div_lt_of_lt_mul (by rw [Nat.mul_comm]; omega)
  obtain ⟨s, hsd⟩ : ∃ s, i / k = s := ⟨_, rfl⟩
  have htn : (xs.getD i 0).toNat = t := by rw [List.getD_eq_getElem?_getD, List.getElem?_eq_getElem hil]; simp [ht]
  have hbH : H[H0.length]? = some (bx k vN vA) := by rw [hst.2 _ (List.getElem?_eq_some_iff.1 hb).1 (by simp)]; exact hb
  obtain ⟨g0, _⟩ := fld3 hbH
  obtain ⟨_, _, n1, n2⟩ := rd_at T22 (hN.stay hst) (il_get hil)
  rw [ht] at n2
  have etd : (i : Int).tdiv (k : Int) = ((s : Nat) : Int) := by rw [← hsd, Int.ofNat_tdiv]
  rw [hsd] at hs
  have hkz : (k : Int) ≠ 0 := by omega
  have fs : Fit .i64 ((i : Int).tdiv (k : Int)) := by rw [etd]; exact fit64 (by omega) (by omega)
  have fi : Fit .i64 ((i : Int) + 1) := fit64 (by omega) (by omega)
  obtain ⟨_, _, u1, u2⟩ := rd_at T23 (hU.stay hst) (use_get hs)
  obtain ⟨_, _, v1, v2⟩ := rd_at T23 (hU.stay hst) (use_get htl)
  rw [← etd] at u1
  have hTs : ∀ j, (T j).length ≤ i + 1 := fun j => by have := hl j; omega
  rw [inGo, hsd, htn]
  cases hus : uB k xs bs s with
  | false =>
   rw [Bool.false_and, if_neg (by simp)]
   obtain ⟨r', o', H', z1, z2, z3⟩ := loop54 hG (prot := prot) hb hN hU d (i + 1) T r o H (by omega) hO hst hle hTs
   refine ⟨r', o', H', ?_, z2, z3⟩
   rw [hus] at u2
   obtain ⟨_, _, rfl⟩ := hN.len
   obtain ⟨_, _, rfl⟩ := hU.len
   obtain ⟨_, _, rfl⟩ := hO.x3.len
   exact lp_next (f54_L0_2 (by omega) n1 n2 g0 hkz fs u1 u2 rfl fi) z1
  | true =>
   rw [hus] at u2
   cases hut : uB k xs bs t with
   | false =>
    rw [Bool.true_and, if_neg (by simp)]
    obtain ⟨r', o', H', z1, z2, z3⟩ := loop54 hG (prot := prot) hb hN hU d (i + 1) T r o H (by omega) hO hst hle hTs
    refine ⟨r', o', H', ?_, z2, z3⟩
    rw [hut] at v2
    obtain ⟨_, _, rfl⟩ := hN.len
    obtain ⟨_, _, rfl⟩ := hU.len
    obtain ⟨_, _, rfl⟩ := hO.x3.len
    exact lp_next (f54_L0_1 (by omega) n1 n2 g0 hkz fs u1 u2 rfl v1 v2 rfl fi) z1
   | true =>
    rw [hut] at v2
    rw [Bool.true_and, if_pos rfl]
    have hls := hl s
    obtain ⟨a', c', H2, H3, id3, L3, p1, p2, p3, p4, ⟨r', o', p5⟩, p6, p7⟩ := Am23g.Out.appP hle hO hs t (room := true) (by omega) hst.1
    have hst3 : Stay none Hb H3 := ⟨p7, fun q hq _ => (p6 q hq).trans (hst.2 q hq (by simp))⟩
    obtain ⟨r2, o2, H', z1, z2, z3⟩ := loop54 hG (prot := prot) hb hN hU d (i + 1) (addE T s t) r' o' H3 (by omega) p5 hst3 hle (fun j => by
     have := hl j
     unfold addE
     split
     ·rename_i e; subst e; rw [List.length_append, List.length_singleton]; omega
     ·omega)
    refine ⟨r2, o2, H', ?_, z2, z3⟩
    have hrl := (hO.rx s hs).len
    rw [← etd] at p1
    have h5 : aindexAddr cfg.P 86 x4 (.int .i64 ((i : Int).tdiv (k : Int))) = some (.pointer (some ⟨id3, s, some L3⟩)) := p1
    obtain ⟨_, _, rfl⟩ := hN.len
    obtain ⟨_, _, rfl⟩ := hU.len
    obtain ⟨_, _, rfl⟩ := hO.x3.len
    obtain ⟨_, _, hre⟩ := hrl
    rw [hre] at p2 p3
    exact lp_next (f54_L0_0 (by omega) n1 n2 g0 hkz fs u1 u2 rfl v1 v2 rfl h5 p2 p3 h5 rfl p4 fi) z1
/-- What inner makes. -/
theorem c54 {k : Nat} {xs : List Int} {bs : List Bool} {vN vA : Value} (hG : Good k xs bs) (prot : Nat) (H : AHeap) (hA : IsA H xs bs vN vA) :
  ∃ x' H', callInf cfg 54 [av k vN vA] prot H = some (x', H') ∧ Mine H.length H' x' bs.length (inL k xs (uB k xs bs)) ∧ Stay none H H' := by
 obtain ⟨HX, hHX⟩ : ∃ HX, HX = H ++ [bx k vN vA] := ⟨_, rfl⟩
 have lX : HX.length = H.length + 1 := by rw [hHX]; simp
 have sX : Stay none H HX := by rw [hHX]; exact Stay.app none H _
 have hb1 := hG.n1
 have hb5 := hG.n5
 have hxl := hG.nx
 have gX : HX[H.length]? = some (bx k vN vA) := by rw [hHX]; exact append_get.1
 obtain ⟨p, c, H1, r1, r2, r3⟩ := c53 hG H.length HX (hA.stay sX)
 obtain ⟨HB, hHB⟩ : ∃ HB, HB = H1 ++ [AObj.cells (repCells [.slice none 0 0] bs.length) 22 (repCells [.slice none 0 0] bs.length).length .row] := ⟨_, rfl⟩
 have sB : Stay none H1 HB := by rw [hHB]; exact Stay.app none H1 _
 have g1 : H1[H.length]? = some (bx k vN vA) := by rw [r3.2 _ (by omega) (by simp)]; exact gX
 have hA1 := (hA.stay sX).stay r3
 have hO := out_start hb1 H1
 rw [← hHB] at hO
 have hlX := r3.1
 obtain ⟨r', o', H2, z1, z2, z3⟩ := loop54 hG (prot := prot) (Hb := H1) g1 hA1.n r2.rd xs.length 0 _ _ _ HB (by omega) hO sB (by omega) (fun j => Nat.zero_le _)
 have hin : ∀ j, j < bs.length → inGo k xs (uB k xs bs) xs.length 0 (fun _ => []) j = inL k xs (uB k xs bs) j := fun j hj => by
  have := congrFun (inGo_all (k := k) (xs := xs) (U := uB k xs bs) bs.length 0 (fun _ => [])) j
  rw [Nat.zero_mul, ← hxl] at this
  rw [this, if_pos (by omega), List.nil_append]
 have hM : Mine H.length H2 (.slice (some ⟨H1.length, 0, some (bs.length * 1)⟩) bs.length bs.length) bs.length (inL k xs (uB k xs bs)) :=
  ⟨.inl ⟨r', o', H1.length, z2.x3, fun j hj => by rw [← hin j hj]; exact z2.rx j hj, by omega, fun j hj a ha => by have := z2.bo j hj a ha; omega, z2.dis⟩⟩
 obtain ⟨x', H', y1, y2, y3⟩ := gc_mine (H := H) hM ((sX.trans r3).trans z3) (ps := []) rfl
 refine ⟨x', H', ?_, y2, y3⟩
 have lN := hA.n.len
 have lA := hA.a.len
 obtain ⟨aN, cN, rfl⟩ := lN
 obtain ⟨aA, cA, rfl⟩ := lA
 obtain ⟨_, _, _, gg3⟩ := fld3 gX
 obtain ⟨_, _, gg2, _⟩ := fld3 g1
 have gB : HB[H.length]? = some (bx k (.slice aN xs.length cN) (.slice aA bs.length cA)) := by rw [sB.2 _ (by omega) (by simp)]; exact g1
 obtain ⟨_, gb1, _, _⟩ := fld3 gB
 subst hHB; subst hHX
 exact f54_F_0 _ _ all3 gg3 r1 gg2 (by omega) rfl (by omega) (by omega) gb1 z1 (by rw [pfin_eq, if_neg (by simp [a54])]; exact y1)
end Go.Proofs.Ythjkodbinkiifaa.Am23
namespace Go.Proofs.Ythjkodbinkiifaa.Am
open Go
/-! Sets of numbers below 512, as eight words. -/
def natOf (f : Nat → Bool) : Nat → Nat
 | 0 => 0
 | n + 1 => natOf f n ||| (if f n then 2 ^ n else 0)
theorem natOf_lt (f : Nat → Bool) : ∀ n, natOf f n < 2 ^ n
 | 0 => by simp [natOf]
 | n + 1 => by
  rw [natOf]
  refine Nat.or_lt_two_pow (Nat.lt_of_lt_of_le (natOf_lt f n) (Nat.pow_le_pow_right (by omega) (by omega))) ?_
  split
  ·exact Nat.pow_lt_pow_right (by omega) (by omega)
  ·exact Nat.two_pow_pos _
theorem natOf_bit (f : Nat → Bool) (j : Nat) : ∀ n, (natOf f n).testBit j = (decide (j < n) && f j)
 | 0 => by simp [natOf]
 | n + 1 => by
  rw [natOf, Nat.testBit_or, natOf_bit f j n]
  by_cases h : j = n
  ·subst h
   cases hf : f j <;> simp [hf, Nat.testBit_two_pow_self]
  ·have e1 : decide (j < n + 1) = decide (j < n) := by rw [decide_eq_decide]; omega
   rw [e1]
   have e2 : (if f n = true then 2 ^ n else 0).testBit j = false := by
    split
    ·rw [Nat.testBit_two_pow]; simpa using fun e => h e.symm
    ·simp
   rw [e2, Bool.or_false]
def wordS (S : Nat → Bool) (w : Nat) : Nat := natOf (fun b => S (64 * w + b)) 64
def setL (S : Nat → Bool) : List Value := (List.range 8).map fun w => .int .u64 ((wordS S w : Nat) : Int)
def setA (S : Nat → Bool) : Array Value := ⟨setL S⟩
theorem setL_len (S : Nat → Bool) : (setL S).length = 8 := by simp [setL]
theorem setL_cell (S : Nat → Bool) : (setL S).all isCell = true := by simp [setL, isCell]
theorem setL_plain (S : Nat → Bool) : (setL S).all plain0 = true := by simp [setL, plain0]
theorem setA_plain (S : Nat → Bool) : plain1 (.agg (setA S)) = true := by
 show (setL S).all plain0 = true
 exact setL_plain S
theorem setL_get {S : Nat → Bool} {w : Nat} (h : w < 8) : (setL S)[w]? = some (.int .u64 ((wordS S w : Nat) : Int)) := by
 unfold setL
 rw [List.getElem?_map, List.getElem?_range h]; rfl
theorem wordS_lt (S : Nat → Bool) (w : Nat) : wordS S w < 18446744073709551616 := natOf_lt _ 64
/-- One number more. -/
def addS (S : Nat → Bool) (i : Nat) : Nat → Bool := fun j => S j || decide (j = i)
def noS : Nat → Bool := fun _ => false
theorem wordS_add {S : Nat → Bool} {i : Nat} : wordS (addS S i) (i / 64) = wordS S (i / 64) ||| 2 ^ (i % 64) := by
 apply Nat.eq_of_testBit_eq
 intro j
 unfold wordS
 rw [Nat.testBit_or, natOf_bit, natOf_bit, Nat.testBit_two_pow]
 unfold addS
 by_cases h : j < 64
 ·rw [decide_eq_true h, Bool.true_and, Bool.true_and]
  congr 1
  rw [decide_eq_decide]
  omega
 ·rw [decide_eq_false h, Bool.false_and, Bool.false_and, Bool.false_or]
  exact (decide_eq_false (by omega)).symm
theorem wordS_other {S : Nat → Bool} {i w : Nat} (h : w ≠ i / 64) : wordS (addS S i) w = wordS S w := by
 apply Nat.eq_of_testBit_eq
 intro j
 unfold wordS
 rw [natOf_bit, natOf_bit]
 by_cases hj : j < 64
 ·unfold addS
  have : decide (64 * w + j = i) = false := decide_eq_false (by omega)
  rw [this, Bool.or_false]
 ·rw [decide_eq_false hj, Bool.false_and, Bool.false_and]
theorem setL_add {S : Nat → Bool} {i : Nat} (_h : i < 512) : (setL S).set (i / 64) (.int .u64 ((wordS S (i / 64) ||| 2 ^ (i % 64) : Nat) : Int)) = setL (addS S i) := by
 apply List.ext_getElem?
 intro w
 by_cases hw : w < 8
 ·rw [setL_get hw]
  by_cases h : w = i / 64
  ·subst h
   rw [List.getElem?_set_self (by rw [setL_len]; exact hw), wordS_add]
  ·rw [List.getElem?_set_ne (fun e => h e.symm), setL_get hw, wordS_other h]
 ·rw [List.getElem?_eq_none (by rw [List.length_set, setL_len]; omega), List.getElem?_eq_none (by rw [setL_len]; omega)]
theorem setL_no : setL noS = List.replicate 8 (.int .u64 0) := by
 have : ∀ w, wordS noS w = 0 := fun w => by
  apply Nat.eq_of_testBit_eq
  intro j
  unfold wordS
  rw [natOf_bit]
  simp [noS]
 unfold setL
 simp only [this]
 rfl
theorem setL_congr {S T : Nat → Bool} (h : ∀ i, i < 512 → S i = T i) : setL S = setL T := by
 unfold setL
 refine List.map_congr_left fun w hw => ?_
 rw [List.mem_range] at hw
 have : wordS S w = wordS T w := by
  apply Nat.eq_of_testBit_eq
  intro j
  unfold wordS
  rw [natOf_bit, natOf_bit]
  by_cases hj : j < 64
  ·rw [h (64 * w + j) (by omega)]
  ·rw [decide_eq_false hj, Bool.false_and, Bool.false_and]
 rw [this]
theorem u64_wrapN (n : Nat) : IntKind.u64.wrap (n : Int) = ((n % 18446744073709551616 : Nat) : Int) := by
 simp only [IntKind.wrap]
 show (if (false && decide ((n : Int) % (18446744073709551616 : Int) ≥ (9223372036854775808 : Int))) = true then (n : Int) % (18446744073709551616 : Int) - 18446744073709551616 else (n : Int) % (18446744073709551616 : Int)) = _
 rw [if_neg (by simp)]
 omega
theorem ofInt_natU (n : Nat) (h : n < 18446744073709551616) : (BitVec.ofInt IntKind.u64.bits (n : Int)).toNat = n := by
 show (BitVec.ofInt 64 (n : Int)).toNat = n
 rw [BitVec.ofInt_natCast, BitVec.toNat_ofNat]
 exact Nat.mod_eq_of_lt h
theorem tdiv64 (i : Nat) : (i : Int).tdiv 64 = ((i / 64 : Nat) : Int) := by rw [show (64 : Int) = ((64 : Nat) : Int) from rfl, Int.ofNat_tdiv]
theorem tmod64 (i : Nat) : (i : Int).tmod 64 = ((i % 64 : Nat) : Int) := by rw [show (64 : Int) = ((64 : Nat) : Int) from rfl, Int.ofNat_tmod]
/-- A bit is set. -/
theorem bit_or {a i : Nat} (ha : a < 18446744073709551616) {m : Int} (hm : m = ((i % 64 : Nat) : Int)) :
  IntKind.u64.wrap (((BitVec.ofInt IntKind.u64.bits (a : Int) ||| BitVec.ofInt IntKind.u64.bits (IntKind.u64.wrap (1 * 2 ^ min m.toNat IntKind.u64.bits))).toNat : Nat) : Int) = ((a ||| 2 ^ (i % 64) : Nat) : Int) := by
 subst hm
 have hpow : 2 ^ (i % 64) < 18446744073709551616 := Nat.pow_lt_pow_of_lt (a := 2) (n := i % 64) (m := 64) (by omega) (by omega)
 have hb : min ((i % 64 : Nat) : Int).toNat IntKind.u64.bits = i % 64 := by
  rw [Int.toNat_natCast]
  show min (i % 64) 64 = i % 64
  omega
 have h1 : IntKind.u64.wrap (1 * 2 ^ min ((i % 64 : Nat) : Int).toNat IntKind.u64.bits) = ((2 ^ (i % 64) : Nat) : Int) := by
  rw [hb, Int.one_mul]
  have : ((2 : Int) ^ (i % 64)) = ((2 ^ (i % 64) : Nat) : Int) := by push_cast; rfl
  rw [this, u64_wrapN, Nat.mod_eq_of_lt hpow]
 rw [h1, BitVec.toNat_or, ofInt_natU _ ha, ofInt_natU _ hpow, u64_wrapN]
 have := Nat.or_lt_two_pow (n := 64) ha hpow
 rw [Nat.mod_eq_of_lt this]
/-- A bit is read. -/
theorem bit_and {a i : Nat} (ha : a < 18446744073709551616) {m : Int} (hm : m = ((i % 64 : Nat) : Int)) :
  IntKind.u64.wrap (((BitVec.ofInt IntKind.u64.bits ((a : Int).fdiv (2 ^ min m.toNat IntKind.u64.bits)) &&& BitVec.ofInt IntKind.u64.bits 1).toNat : Nat) : Int) = ((a / 2 ^ (i % 64) % 2 : Nat) : Int) := by
 subst hm
 have hb : min ((i % 64 : Nat) : Int).toNat IntKind.u64.bits = i % 64 := by
  rw [Int.toNat_natCast]
  show min (i % 64) 64 = i % 64
  omega
 rw [hb]
 have hf : ((a : Nat) : Int).fdiv (2 ^ (i % 64)) = ((a / 2 ^ (i % 64) : Nat) : Int) := by
  rw [Int.fdiv_eq_ediv_of_nonneg _ (by exact_mod_cast Nat.zero_le _)]
  push_cast
  rfl
 rw [hf]
 have hlt2 : a / 2 ^ (i % 64) < 18446744073709551616 := Nat.lt_of_le_of_lt (Nat.div_le_self _ _) ha
 have hand : (BitVec.ofInt IntKind.u64.bits ((a / 2 ^ (i % 64) : Nat) : Int) &&& BitVec.ofInt IntKind.u64.bits 1).toNat = a / 2 ^ (i % 64) % 2 := by
  rw [BitVec.toNat_and, ofInt_natU _ hlt2]
  have h1 : (BitVec.ofInt IntKind.u64.bits 1).toNat = 1 := by decide
  rw [h1, Nat.and_one_is_mod]
 rw [hand, u64_wrapN, Nat.mod_eq_of_lt (by omega)]
theorem wordS_bit {S : Nat → Bool} {i : Nat} : (wordS S (i / 64) / 2 ^ (i % 64) % 2 = 1) ↔ S i = true := by
 have h := Nat.testBit_eq_decide_div_mod_eq (x := wordS S (i / 64)) (i := i % 64)
 have h2 : (wordS S (i / 64)).testBit (i % 64) = S i := by
  unfold wordS
  rw [natOf_bit, decide_eq_true (Nat.mod_lt _ (by omega)), Bool.true_and]
  congr 1
  omega
 rw [h2] at h
 rw [h, decide_eq_true_eq]
end Go.Proofs.Ythjkodbinkiifaa.Am
namespace Go.Proofs.Ythjkodbinkiifaa.Am
open Go
/-! The lowest bit of a word. -/
/-! ### The numbers of a set, in order -/
end Go.Proofs.Ythjkodbinkiifaa.Am
namespace Go.Proofs.Ythjkodbinkiifaa.Am
open Go
/-! Heights in a finite order. -/
/-- A height: the longest chain above. -/
structure Ht (A : Nat → Nat → Bool) (n : Nat) (h : Nat → Nat) : Prop where
 ge : ∀ c d, c < n → d < n → d ≠ c → A c d = true → h d + 1 ≤ h c
 ex : ∀ c, c < n → h c = 0 ∨ ∃ d, d < n ∧ d ≠ c ∧ A c d = true ∧ h c = h d + 1
 lt : ∀ c, c < n → h c < n
theorem countP_lt {p q : Nat → Bool} : ∀ {l : List Nat}, (∀ x, p x = true → q x = true) → (∃ d, d ∈ l ∧ q d = true ∧ p d = false) → l.countP p < l.countP q
 | [], _, ⟨d, h, _⟩ => by simp at h
 | a :: l, hs, ⟨d, hm, h1, h2⟩ => by
  have hmono : l.countP p ≤ l.countP q := List.countP_mono_left fun x _ h => hs x h
  rw [List.countP_cons, List.countP_cons]
  rcases List.mem_cons.1 hm with e | e
  ·subst e
   rw [h1, h2]
   simp; omega
  ·have := countP_lt (l := l) hs ⟨d, e, h1, h2⟩
   cases ha : p a with
   | false => cases q a <;> simp <;> omega
   | true => rw [hs a ha]; simp; omega
def upP (A : Nat → Nat → Bool) (c : Nat) : Nat → Bool := fun d => decide (d ≠ c) && A c d
def mxl (f : Nat → Nat) (p : Nat → Bool) : Nat → Nat
 | 0 => 0
 | n + 1 => if p n then max (mxl f p n) (f n + 1) else mxl f p n
theorem mxl_ge {f : Nat → Nat} {p : Nat → Bool} {d : Nat} (hp : p d = true) : ∀ {n : Nat}, d < n → f d + 1 ≤ mxl f p n
 | n + 1, h => by
  rw [mxl]
  by_cases e : d = n
  ·subst e; rw [if_pos hp]; omega
  ·have := mxl_ge (f := f) hp (n := n) (by omega)
   split <;> omega
theorem mxl_ex {f : Nat → Nat} {p : Nat → Bool} : ∀ {n : Nat}, mxl f p n = 0 ∨ ∃ d, d < n ∧ p d = true ∧ mxl f p n = f d + 1
 | 0 => .inl rfl
 | n + 1 => by
  rw [mxl]
  split
  ·rename_i hp
   rcases Nat.le_total (f n + 1) (mxl f p n) with h | h
   ·rw [Nat.max_eq_left h]
    rcases mxl_ex (f := f) (p := p) (n := n) with h1 | ⟨d, h1, h2, h3⟩
    ·exact .inl h1
    ·exact .inr ⟨d, by omega, h2, h3⟩
   ·rw [Nat.max_eq_right h]
    exact .inr ⟨n, by omega, hp, rfl⟩
  ·rcases mxl_ex (f := f) (p := p) (n := n) with h1 | ⟨d, h1, h2, h3⟩
   ·exact .inl h1
   ·exact .inr ⟨d, by omega, h2, h3⟩
theorem mxl_congr {f g : Nat → Nat} {p : Nat → Bool} : ∀ {n : Nat}, (∀ d, d < n → p d = true → f d = g d) → mxl f p n = mxl g p n
 | 0, _ => rfl
 | n + 1, h => by
  rw [mxl, mxl, mxl_congr (n := n) (fun d hd hp => h d (by omega) hp)]
  split
  ·rename_i hp; rw [h n (by omega) hp]
  ·rfl
def hgt (A : Nat → Nat → Bool) (n : Nat) : Nat → Nat → Nat
 | 0, _ => 0
 | k + 1, c => mxl (hgt A n k) (upP A c) n
theorem hgt_ok {A : Nat → Nat → Bool} {n : Nat} (tr : ∀ c d e, A c d = true → A d e = true → A c e = true) (an : ∀ c d, A c d = true → A d c = true → c = d) : Ht A n (hgt A n n) := by
 have cl : ∀ c d, d < n → upP A c d = true → (List.range n).countP (upP A d) < (List.range n).countP (upP A c) := fun c d hd h => by
  simp only [upP, Bool.and_eq_true, decide_eq_true_eq] at h
  refine countP_lt (fun e he => ?_) ⟨d, List.mem_range.2 hd, by simp [upP, h.1, h.2], by simp [upP]⟩
  simp only [upP, Bool.and_eq_true, decide_eq_true_eq] at he ⊢
  refine ⟨fun e0 => ?_, tr c d e h.2 he.2⟩
  subst e0
  exact h.1 (an _ _ he.2 h.2)
 have st : ∀ N c k, (List.range n).countP (upP A c) ≤ N → N ≤ k → hgt A n k c = hgt A n N c := by
  intro N
  induction N with
  | zero =>
   intro c k h1 h2
   cases k with
   | zero => rfl
   | succ k =>
    rw [hgt, hgt]
    rcases mxl_ex (f := hgt A n k) (p := upP A c) (n := n) with h | ⟨d, hd, hp, _⟩
    ·exact h
    ·have := cl c d hd hp; omega
  | succ N ih =>
   intro c k h1 h2
   cases k with
   | zero => omega
   | succ k =>
    rw [hgt, hgt]
    refine mxl_congr fun d hd hp => ?_
    have := cl c d hd hp
    exact ih d k (by omega) (by omega)
 have cn : ∀ c, (List.range n).countP (upP A c) ≤ n := fun c => by
  have := List.countP_le_length (p := upP A c) (l := List.range n)
  rw [List.length_range] at this; exact this
 have fx : ∀ c, hgt A n n c = mxl (hgt A n n) (upP A c) n := fun c => by
  have := st n c (n + 1) (cn c) (by omega)
  rw [← this, hgt]
 have ub : ∀ k c, hgt A n k c ≤ (List.range n).countP (upP A c) := by
  intro k
  induction k with
  | zero => intro c; exact Nat.zero_le _
  | succ k ih =>
   intro c
   rw [hgt]
   rcases mxl_ex (f := hgt A n k) (p := upP A c) (n := n) with h | ⟨d, hd, hp, h⟩
   ·omega
   ·have := cl c d hd hp
    have := ih d
    omega
 refine ⟨fun c d hc hd hne ha => ?_, fun c hc => ?_, fun c hc => ?_⟩
 ·rw [fx c]
  exact mxl_ge (f := hgt A n n) (by simp [upP, hne, ha]) hd
 ·rcases mxl_ex (f := hgt A n n) (p := upP A c) (n := n) with h | ⟨d, hd, hp, h⟩
  ·exact .inl (by rw [fx c]; exact h)
  ·simp only [upP, Bool.and_eq_true, decide_eq_true_eq] at hp
   exact .inr ⟨d, hd, hp.1, hp.2, by rw [fx c]; exact h⟩
 ·have h1 := ub n c
  have h2 : (List.range n).countP (upP A c) < (List.range n).countP (fun _ => true) := countP_lt (fun _ _ => rfl) ⟨c, List.mem_range.2 hc, rfl, by simp [upP]⟩
  have h3 := List.countP_le_length (p := fun _ => true) (l := List.range n)
  rw [List.length_range] at h3
  omega
def topH (h : Nat → Nat) : Nat → Nat
 | 0 => 0
 | n + 1 => max (topH h n) (h n)
theorem topH_le {h : Nat → Nat} {c : Nat} : ∀ {n : Nat}, c < n → h c ≤ topH h n
 | n + 1, hc => by
  rw [topH]
  by_cases e : c = n
  ·subst e; omega
  ·have := topH_le (h := h) (c := c) (n := n) (by omega); omega
theorem topH_ex {h : Nat → Nat} : ∀ {n : Nat}, topH h n = 0 ∨ ∃ c, c < n ∧ topH h n = h c
 | 0 => .inl rfl
 | n + 1 => by
  rw [topH]
  rcases Nat.le_total (h n) (topH h n) with e | e
  ·rw [Nat.max_eq_left e]
   rcases topH_ex (h := h) (n := n) with h1 | ⟨c, h1, h2⟩
   ·exact .inl h1
   ·exact .inr ⟨c, by omega, h2⟩
  ·rw [Nat.max_eq_right e]; exact .inr ⟨n, by omega, rfl⟩
end Go.Proofs.Ythjkodbinkiifaa.Am
set_option linter.unusedVariables false
open Go Go.Proofs.Ythjkodbinkiifaa.Am
namespace Go.Proofs.Ythjkodbinkiifaa.Am23
section
variable {x0 x12 z0 z6 x37 x6 x18 x19 x22 x26 : Int}
variable {x1p x1o x1l x2p x2o x2l x3p x3o x3l prot x9n x9c x11p x11o x11l x14n x14c x16p x16o x16l x17n x17c z1p z1o z1l x29n x29c x33p x33o x33l x34n x34c x36p x36o x36l x21p x21o x21l x24ap x24ao x24al x24bp x24bo x24bl x24cp x24co x24cl : Nat}
variable {H H1 H2 H0 : AHeap}
variable {x9a x14a x17a x29a x34a : Option Addr}
theorem f55_F_0 (h1 : getCells H x1p x1l x1o 1 = some [vS x9a x9n x9c]) (h2 : aX 22 (vS x9a x9n x9c) (vI x0) = some (vP x11p x11o x11l)) (h3 : getCells H x11p x11l x11o 1 = some [vI x12]) (h4 : (x12 == 0) = true) (h5 : getCells H x2p x2l x2o 1 = some [vS x14a x14n x14c]) (h6 : aX 86 (vS x14a x14n x14c) (vI x0) = some (vP x16p x16o x16l)) (h7 : getCells H x16p x16l x16o 1 = some [vS x17a x17n x17c]) (h8 : lI a55 0 prot H ([vI x0, vP x1p x1o x1l, vP x3p x3o x3l, vI 0, vS x17a x17n x17c, vI (↑x17n : Int), vI 0], H) = some (Ex.exit 0, [vI z0, vP z1p z1o z1l, vI z6], H1)) (h9 : getCells H1 z1p z1l z1o 1 = some [vS x29a x29n x29c]) (h10 : Fit .i64 (z6 + 1)) (h11 : aX 22 (vS x29a x29n x29c) (vI z0) = some (vP x33p x33o x33l)) (h12 : 1 = 1) (h13 : setCells H1 prot x33p x33l x33o [vI (z6 + 1)] = some H2) (h14 : getCells H2 z1p z1l z1o 1 = some [vS x34a x34n x34c]) (h15 : aX 22 (vS x34a x34n x34c) (vI z0) = some (vP x36p x36o x36l)) (h16 : getCells H2 x36p x36l x36o 1 = some [vI x37]) : callInf cfg 55 [.int .i64 x0, .pointer (some ⟨x1p, x1o, some x1l⟩), .pointer (some ⟨x2p, x2o, some x2l⟩), .pointer (some ⟨x3p, x3o, some x3l⟩)] prot H = some (Value.int .i64 x37, H2) :=
 fn_of2 a55 [.v (vS x9a x9n x9c), .v (vP x11p x11o x11l), .v (vI x12), .e, .b true, .v (vS x14a x14n x14c), .v (vP x16p x16o x16l), .v (vS x17a x17n x17c), .e, .lo (.exit 0, [vI z0, vP z1p z1o z1l, vI z6], H1), .v (vS x29a x29n x29c), .e, .v (vP x33p x33o x33l), .h H2, .v (vS x34a x34n x34c), .v (vP x36p x36o x36l), .v (vI x37)] (ai h1 (ai h2 (ai h3 (ai h4 (ai h5 (ai h6 (ai h7 (ai h8 (ai h9 (ai h10 (ai h11 (ai h12 (ai h13 (ai h14 (ai h15 (ai h16 (Eq.refl ((vI x37, H2) : Value × AHeap)))))))))))))))))) (by kernel_rfl) rfl
theorem f55_F_1 (h1 : getCells H x1p x1l x1o 1 = some [vS x9a x9n x9c]) (h2 : aX 22 (vS x9a x9n x9c) (vI x0) = some (vP x11p x11o x11l)) (h3 : getCells H x11p x11l x11o 1 = some [vI x12]) (h4 : (x12 == 0) = false) (h5 : getCells H x1p x1l x1o 1 = some [vS x34a x34n x34c]) (h6 : aX 22 (vS x34a x34n x34c) (vI x0) = some (vP x36p x36o x36l)) (h7 : getCells H x36p x36l x36o 1 = some [vI x37]) : callInf cfg 55 [.int .i64 x0, .pointer (some ⟨x1p, x1o, some x1l⟩), .pointer (some ⟨x2p, x2o, some x2l⟩), .pointer (some ⟨x3p, x3o, some x3l⟩)] prot H = some (Value.int .i64 x37, H) :=
 fn_of2 a55 [.v (vS x9a x9n x9c), .v (vP x11p x11o x11l), .v (vI x12), .e, .b false, .v (vS x34a x34n x34c), .v (vP x36p x36o x36l), .v (vI x37)] (ai h1 (ai h2 (ai h3 (ai h4 (ai h5 (ai h6 (ai h7 (Eq.refl ((vI x37, H) : Value × AHeap))))))))) (by kernel_rfl) rfl
theorem f55_L0_0 (h1 : x19 < x18) (h2 : aX 22 (vS x17a x17n x17c) (vI x19) = some (vP x21p x21o x21l)) (h3 : getCells H x21p x21l x21o 1 = some [vI x22]) (h4 : getCells H x3p x3l x3o 1 = some [Value.func (Fn.func 55) #[] #[vP x24ap x24ao x24al, vP x24bp x24bo x24bl, vP x24cp x24co x24cl]]) (h5 : cI 55 [vI x22, vP x24ap x24ao x24al, vP x24bp x24bo x24bl, vP x24cp x24co x24cl] prot H = some (vI x26, H2)) (h6 : Fit .i64 (x19 + 1)) : lpOf cfg a55 0 prot H0 ([.int .i64 x0, .pointer (some ⟨x1p, x1o, some x1l⟩), .pointer (some ⟨x3p, x3o, some x3l⟩), .int .i64 x6, .slice x17a x17n x17c, .int .i64 x18, .int .i64 x19], H) = some (Sum.inl ([Value.int .i64 x0, Value.pointer (some ⟨x1p, x1o, some x1l⟩), Value.pointer (some ⟨x3p, x3o, some x3l⟩), Value.int .i64 (if x26 > x6 then x26 else x6), Value.slice x17a x17n x17c, Value.int .i64 x18, Value.int .i64 (x19 + 1)], H2)) :=
 lp_of2 [.e, .b true, .v (vP x21p x21o x21l), .v (vI x22), .v (.func (.func 55) #[] #[vP x24ap x24ao x24al, vP x24bp x24bo x24bl, vP x24cp x24co x24cl]), .r (vI x26) H2, .e, .e] (ai (decide_eq_true h1) (ai h2 (ai h3 (ai h4 (ai h5 (ai h6 (Eq.refl (Sum.inl ([vI x0, vP x1p x1o x1l, vP x3p x3o x3l, vI (if x26 > x6 then x26 else x6), vS x17a x17n x17c, vI x18, vI (x19 + 1)], H2) : LS ⊕ LO)))))))) (by kernel_rfl)
theorem f55_L0_1 (h1 : ¬(x19 < x18)) : lpOf cfg a55 0 prot H0 ([.int .i64 x0, .pointer (some ⟨x1p, x1o, some x1l⟩), .pointer (some ⟨x3p, x3o, some x3l⟩), .int .i64 x6, .slice x17a x17n x17c, .int .i64 x18, .int .i64 x19], H) = some (Sum.inr (Ex.exit 0, [Value.int .i64 x0, Value.pointer (some ⟨x1p, x1o, some x1l⟩), Value.int .i64 x6], H)) :=
 lp_of2 [.e, .b false] (ai (decide_eq_false h1) (Eq.refl (Sum.inr (Ex.exit 0, [vI x0, vP x1p x1o x1l, vI x6], H) : LS ⊕ LO))) (by kernel_rfl)
end
end Go.Proofs.Ythjkodbinkiifaa.Am23
namespace Go.Proofs.Ythjkodbinkiifaa.Am23
open Go Go.Proofs.Ythjkodbinkiifaa.Am
open Am23g (addE Out Mine out_start gc_mine Gr nl)
/-! Longest: the memo and the walk. -/
def faL (F : Nat → Nat) (N : Nat) : List Int := nl ((List.range N).map F)
theorem faL_len (F : Nat → Nat) (N : Nat) : (faL F N).length = N := by simp [faL, nl]
theorem faL_get {F : Nat → Nat} {N u : Nat} (h : u < N) : (il (faL F N))[u]? = some (.int .i64 ((F u : Nat) : Int)) := by
 unfold il faL nl
 rw [List.getElem?_map, List.getElem?_map, List.getElem?_map, List.getElem?_range h]; rfl
def stF (F : Nat → Nat) (u c : Nat) : Nat → Nat := fun x => if x = u then c else F x
theorem faL_put {F : Nat → Nat} {N u : Nat} (c : Nat) (h : u < N) : putList (il (faL F N)) (u * 1 + 0) [.int .i64 ((c : Nat) : Int)] = il (faL (stF F u c) N) := by
 rw [Nat.mul_one, Nat.add_zero, put_one _ (by simp [il, faL_len]; exact h)]
 unfold il faL nl
 apply List.ext_getElem?
 intro x
 by_cases e : x = u
 ·subst e
  rw [List.getElem?_set_self (by simp; exact h), List.getElem?_map, List.getElem?_map, List.getElem?_map, List.getElem?_range h]
  simp [stF]
 ·rw [List.getElem?_set_ne (fun h => e h.symm)]
  simp only [List.getElem?_map]
  by_cases hx : x < N
  ·rw [List.getElem?_range hx]; simp [stF, e]
  ·rw [List.getElem?_eq_none (by simp; omega)]; rfl
/-- Rows that stand apart from what is written. -/
def RowsA (H : AHeap) (xg : Value) (n : Nat) (T : Nat → List Nat) (od : Nat) : Prop :=
 ∃ cs, Rd H 22 1 xg n cs ∧ ∀ j, j < n → ∃ r, cs[j]? = some r ∧ Rd H 3 1 r (T j).length (il (nl (T j))) ∧ ∀ id off L m c, r = .slice (some ⟨id, off, some L⟩) m c → some od ≠ some id
theorem RowsA.stay {H H' : AHeap} {xg : Value} {n : Nat} {T : Nat → List Nat} {od : Nat} (h : RowsA H xg n T od) (s : Stay none H H') : RowsA H' xg n T od := by
 obtain ⟨cs, h1, h2⟩ := h
 exact ⟨cs, h1.stay s, fun j hj => by obtain ⟨r, a, b, c⟩ := h2 j hj; exact ⟨r, a, b.stay s, c⟩⟩
theorem RowsA.over {H H' : AHeap} {xg : Value} {n : Nat} {T : Nat → List Nat} {od wr : Nat} {l : List Value} {md : OMode} (h : RowsA H xg n T od) (g : H[od]? = some (.cells l 3 wr md)) (s : Stay (some od) H H') : RowsA H' xg n T od := by
 obtain ⟨cs, h1, h2⟩ := h
 exact ⟨cs, h1.stayE g (by decide) s, fun j hj => by obtain ⟨r, a, b, c⟩ := h2 j hj; exact ⟨r, a, b.stayNe s c, c⟩⟩
abbrev fLo (p1 p2 p3 : Nat) : Value := .func (.func 55) #[] #[.pointer (some ⟨p1, 0, some 1⟩), .pointer (some ⟨p2, 0, some 1⟩), .pointer (some ⟨p3, 0, some 1⟩)]
theorem one_get {H : AHeap} {p e : Nat} {v : Value} {md : OMode} (h : H[p]? = some (.cells [v] e 1 md)) : getCells H p 1 0 1 = some [v] := by
 unfold getCells
 rw [h]
 rfl
structure WM (fc : Value) (B : Nat) (H : AHeap) (n : Nat) (T : Nat → List Nat) (g : Nat → Nat) (xd xg : Value) (od p1 p2 p3 : Nat) (D : Nat → Nat) : Prop where
 g1 : H[p1]? = some (.cells [xd] 22 1 .var)
 g2 : H[p2]? = some (.cells [xg] 86 1 .var)
 g3 : H[p3]? = some (.cells [fc] 82 1 .var)
 dp : Own H 3 1 xd (some od) n (il (faL D n))
 rd : RowsA H xg n T od
 n1 : od ≠ p1
 n2 : od ≠ p2
 n3 : od ≠ p3
 lo : B ≤ od
 ok : ∀ c, c < n → D c = 0 ∨ D c = g c
/-- One value is noted. -/
theorem WM.put {fc : Value} {B : Nat} {H : AHeap} {n : Nat} {T : Nat → List Nat} {g : Nat → Nat} {xd xg : Value} {od p1 p2 p3 : Nat} {D : Nat → Nat} (w : WM fc B H n T g xd xg od p1 p2 p3 D) {c : Nat} (hc : c < n) {prot : Nat} (hp : prot ≤ od) :
  ∃ L H', aindexAddr cfg.P 22 xd (.int .i64 (c : Nat)) = some (.pointer (some ⟨od, c, some L⟩)) ∧ setCells H prot od L c [.int .i64 ((g c : Nat) : Int)] = some H' ∧ WM fc B H' n T g xd xg od p1 p2 p3 (stF D c (g c)) ∧ Stay (some od) H H' := by
 obtain ⟨id, H2, e, s1, s2, s3, s4, s5⟩ := own_setS T22 w.dp (i := c) (j := 0) hc (vs := [.int .i64 ((g c : Nat) : Int)]) (by simp) rfl (prot := prot) (fun id e => by cases e; exact hp)
 cases e
 rw [faL_put _ hc] at s3
 rw [Nat.mul_one] at s1
 rw [Nat.mul_one, Nat.add_zero] at s2
 obtain ⟨_, _, _, _, _, gd⟩ := w.dp
 refine ⟨_, H2, s1, s2, ⟨?_, ?_, ?_, s3, w.rd.over gd s4, w.n1, w.n2, w.n3, w.lo, fun v hv => ?_⟩, s4⟩
 ·rw [s4.2 _ (List.getElem?_eq_some_iff.1 w.g1).1 (fun e => w.n1 (Option.some.inj e))]; exact w.g1
 ·rw [s4.2 _ (List.getElem?_eq_some_iff.1 w.g2).1 (fun e => w.n2 (Option.some.inj e))]; exact w.g2
 ·rw [s4.2 _ (List.getElem?_eq_some_iff.1 w.g3).1 (fun e => w.n3 (Option.some.inj e))]; exact w.g3
 ·unfold stF
  split
  ·rename_i e; subst e; exact .inr rfl
  ·exact w.ok v hv
theorem loop55 {B n : Nat} {T : Nat → List Nat} {h : Nat → Nat} (hn : n ≤ 512) (hh : Ht (fun c d => decide (d ∈ T c)) n h) (hT : ∀ c d, d ∈ T c → d < n ∧ d ≠ c) (hTl : ∀ c, (T c).length ≤ 1000000) {xd xg : Value} {od p1 p2 p3 prot c : Nat} (hp : prot ≤ od) (hc : c < n)
  (ih : ∀ d H D, d < n → h d < h c → WM (fLo p1 p2 p3) B H n T (fun c => h c + 1) xd xg od p1 p2 p3 D → ∃ D' H', callInf cfg 55 [.int .i64 d, .pointer (some ⟨p1, 0, some 1⟩), .pointer (some ⟨p2, 0, some 1⟩), .pointer (some ⟨p3, 0, some 1⟩)] prot H = some (.int .i64 ((h d + 1 : Nat) : Int), H') ∧ WM (fLo p1 p2 p3) B H' n T (fun c => h c + 1) xd xg od p1 p2 p3 D' ∧ Stay (some od) H H')
  {H0 : AHeap} {x : Value} (hne : ∀ id off L n' c, x = .slice (some ⟨id, off, some L⟩) n' c → some od ≠ some id) : ∀ (d i m : Nat) (H : AHeap) (D : Nat → Nat), i + d = (T c).length → Rd H 3 1 x (T c).length (il (nl (T c))) → WM (fLo p1 p2 p3) B H n T (fun c => h c + 1) xd xg od p1 p2 p3 D →
   (∀ j u, j < i → (T c)[j]? = some u → h u + 1 ≤ m) → (m = 0 ∨ ∃ u, u ∈ T c ∧ m = h u + 1) →
  ∃ D' H', lpInf (lpOf cfg a55 0 prot H0) ([.int .i64 c, .pointer (some ⟨p1, 0, some 1⟩), .pointer (some ⟨p3, 0, some 1⟩), .int .i64 m, x, .int .i64 (T c).length, .int .i64 i], H) = some (.exit 0, [.int .i64 c, .pointer (some ⟨p1, 0, some 1⟩), .int .i64 (h c)], H') ∧ WM (fLo p1 p2 p3) B H' n T (fun c => h c + 1) xd xg od p1 p2 p3 D' ∧ Stay (some od) H H'
 | 0, i, m, H, D, hi, hr, hw, hm1, hm2 => by
  have hmc : m = h c := by
   have le1 : m ≤ h c := by
    rcases hm2 with e | ⟨u, u1, e⟩
    ·omega
    ·have := hh.ge c u hc (hT c u u1).1 (hT c u u1).2 (decide_eq_true u1); omega
   rcases hh.ex c hc with e | ⟨u, u1, u2, u3, e⟩
   ·omega
   ·obtain ⟨j, hj⟩ := List.getElem?_of_mem (of_decide_eq_true u3)
    have := hm1 j u (by have := (List.getElem?_eq_some_iff.1 hj).1; omega) hj
    omega
  subst hmc
  obtain ⟨_, _, hre⟩ := hr.len
  refine ⟨D, H, ?_, hw, Stay.refl _ _⟩
  rw [hre]
  exact lp_last (f55_L0_1 (by omega))
 | d + 1, i, m, H, D, hi, hr, hw, hm1, hm2 => by
  have hil : i < (T c).length := by omega
  have hll := hTl c
  obtain ⟨u, hu⟩ : ∃ u, (T c)[i]? = some u := ⟨_, List.getElem?_eq_getElem hil⟩
  have hum : u ∈ T c := List.mem_of_getElem? hu
  obtain ⟨hun, huc⟩ := hT c u hum
  have hcs : (il (nl (T c)))[i]? = some (.int .i64 ((u : Nat) : Int)) := by
   unfold il nl; rw [List.getElem?_map, List.getElem?_map, hu]; rfl
  obtain ⟨id, L, a1, a2⟩ := rd_at T22 hr hcs
  have fi : Fit .i64 ((i : Int) + 1) := fit64 (by omega) (by omega)
  obtain ⟨ax, cx, hre⟩ := hr.len
  have hlt := hh.ge c u hc hun huc (decide_eq_true hum)
  obtain ⟨D1, H1, c1, c2, c3⟩ := ih u H D hun (by omega) hw
  have hif : ((if ((h u + 1 : Nat) : Int) > ((m : Nat) : Int) then ((h u + 1 : Nat) : Int) else ((m : Nat) : Int))) = ((max (h u + 1) m : Nat) : Int) := by split <;> omega
  obtain ⟨D', H', z1, z2, z3⟩ := loop55 hn hh hT hTl hp hc ih (H0 := H0) hne d (i + 1) (max (h u + 1) m) H1 D1 (by omega) (hr.stayNe c3 hne) c2 (fun j v hj hv => by
   by_cases ej : j = i
   ·subst ej; rw [hu] at hv; cases hv; omega
   ·have := hm1 j v (by omega) hv; omega) (by
   rcases Nat.le_total (h u + 1) m with g | g
   ·rw [Nat.max_eq_right g]; exact hm2
   ·rw [Nat.max_eq_left g]; exact .inr ⟨u, hum, rfl⟩)
  refine ⟨D', H', ?_, z2, c3.trans z3⟩
  rw [← hif] at z1
  have g3 := one_get hw.g3
  rw [hre] at a1 z1 ⊢
  exact lp_next (f55_L0_0 (by omega) a1 a2 g3 c1 fi) z1
theorem c55 {B n : Nat} {T : Nat → List Nat} {h : Nat → Nat} (hn : n ≤ 512) (hh : Ht (fun c d => decide (d ∈ T c)) n h) (hT : ∀ c d, d ∈ T c → d < n ∧ d ≠ c) (hTl : ∀ c, (T c).length ≤ 1000000) {xd xg : Value} {od p1 p2 p3 prot : Nat} (hp : prot ≤ od) : ∀ N c H D, c < n → h c < N → WM (fLo p1 p2 p3) B H n T (fun c => h c + 1) xd xg od p1 p2 p3 D →
  ∃ D' H', callInf cfg 55 [.int .i64 c, .pointer (some ⟨p1, 0, some 1⟩), .pointer (some ⟨p2, 0, some 1⟩), .pointer (some ⟨p3, 0, some 1⟩)] prot H = some (.int .i64 ((h c + 1 : Nat) : Int), H') ∧ WM (fLo p1 p2 p3) B H' n T (fun c => h c + 1) xd xg od p1 p2 p3 D' ∧ Stay (some od) H H'
 | 0, c, H, D, _, h0, _ => by omega
 | N + 1, c, H, D, hc, hN, hw => by
  have hlt := hh.lt c hc
  have g1 := one_get hw.g1
  obtain ⟨id, L, a1, a2⟩ := own_at T22 hw.dp (faL_get hc)
  obtain ⟨ad, cd, hd⟩ := hw.dp.len
  by_cases h0 : D c = 0
  ·have g2 := one_get hw.g2
   obtain ⟨cs, r1, r2⟩ := hw.rd
   obtain ⟨r, q1, q2, q3⟩ := r2 c hc
   obtain ⟨i2, L2, b1, b2⟩ := rd_at Am23g.T22 r1 q1
   obtain ⟨D1, H2, z1, z2, z3⟩ := loop55 hn hh hT hTl hp hc (fun d H D h1 h2 h3 => c55 hn hh hT hTl hp N d H D h1 (by omega) h3) (H0 := H) q3 (T c).length 0 0 H D (by omega) q2 hw (fun j u hj => by omega) (.inl rfl)
   obtain ⟨L3, H3, e1, e2, e3, e4⟩ := z2.put hc hp
   obtain ⟨i5, L5, q4, q5⟩ := own_at T22 e3.dp (faL_get hc)
   have hst : stF D1 c (h c + 1) c = h c + 1 := by unfold stF; rw [if_pos rfl]
   rw [hst] at q5
   refine ⟨_, H3, ?_, e3, z3.trans e4⟩
   obtain ⟨ax, cx, hx⟩ := q2.len
   obtain ⟨ay, cy, hs⟩ := r1.len
   rw [h0] at a2
   have gg1 := one_get z2.g1
   have gg3 := one_get e3.g1
   subst hx; subst hs; subst hd
   have e2' : setCells H2 prot od L3 c [.int .i64 ((h c : Int) + 1)] = some H3 := by
    rw [show ((h c : Int) + 1) = ((h c + 1 : Nat) : Int) by push_cast; rfl]; exact e2
   exact f55_F_0 g1 a1 a2 (by simp) g2 b1 b2 z1 gg1 (fit64 (by omega) (by omega)) e1 rfl e2' gg3 q4 q5
  ·have hok : D c = h c + 1 := by rcases hw.ok c hc with e | e; exact absurd e h0; exact e
   rw [hok] at a2
   refine ⟨D, H, ?_, hw, Stay.refl _ _⟩
   subst hd
   exact f55_F_1 g1 a1 a2 (by simp; omega) g1 a1 a2
end Go.Proofs.Ythjkodbinkiifaa.Am23
namespace Go.Proofs.Ythjkodbinkiifaa.Am
open Go
/-! Heights of which each element has a weight. -/
structure HtW (A : Nat → Nat → Bool) (n : Nat) (o h : Nat → Nat) : Prop where
 own : ∀ c, c < n → o c ≤ h c
 ge : ∀ c d, c < n → d < n → d ≠ c → A c d = true → h d + o c ≤ h c
 ex : ∀ c, c < n → h c = o c ∨ ∃ d, d < n ∧ d ≠ c ∧ A c d = true ∧ h c = h d + o c
def hgtW (A : Nat → Nat → Bool) (n : Nat) (o : Nat → Nat) : Nat → Nat → Nat
 | 0, c => o c
 | k + 1, c => o c + (mxl (hgtW A n o k) (upP A c) n - 1)
theorem hgtW_ok {A : Nat → Nat → Bool} {n : Nat} {r : Nat → Nat} (hr : Ht A n r) (o : Nat → Nat) : HtW A n o (hgtW A n o n) := by
 have up : ∀ c d, upP A c d = true → d ≠ c ∧ A c d = true := fun c d h => by
  simpa only [upP, Bool.and_eq_true, decide_eq_true_eq] using h
 have st : ∀ N c k, c < n → r c ≤ N → N ≤ k → hgtW A n o k c = hgtW A n o N c := by
  intro N
  induction N with
  | zero =>
   intro c k hc h1 h2
   cases k with
   | zero => rfl
   | succ k =>
    rw [hgtW, hgtW]
    rcases mxl_ex (f := hgtW A n o k) (p := upP A c) (n := n) with h | ⟨d, hd, hp, _⟩
    ·rw [h]; omega
    ·have := hr.ge c d hc hd (up c d hp).1 (up c d hp).2; omega
  | succ N ih =>
   intro c k hc h1 h2
   cases k with
   | zero => omega
   | succ k =>
    rw [hgtW, hgtW]
    rw [mxl_congr (g := hgtW A n o N) fun d hd hp => by
     have := hr.ge c d hc hd (up c d hp).1 (up c d hp).2
     exact ih d k hd (by omega) (by omega)]
 have fx : ∀ c, c < n → hgtW A n o n c = o c + (mxl (hgtW A n o n) (upP A c) n - 1) := fun c hc => by
  have := st n c (n + 1) hc (by have := hr.lt c hc; omega) (by omega)
  rw [← this, hgtW]
 refine ⟨fun c hc => ?_, fun c d hc hd hne ha => ?_, fun c hc => ?_⟩
 ·rw [fx c hc]; omega
 ·have := mxl_ge (f := hgtW A n o n) (p := upP A c) (d := d) (by simp [upP, hne, ha]) hd
  rw [fx c hc]; omega
 ·rcases mxl_ex (f := hgtW A n o n) (p := upP A c) (n := n) with h | ⟨d, hd, hp, h⟩
  ·exact .inl (by rw [fx c hc, h]; omega)
  ·exact .inr ⟨d, hd, (up c d hp).1, (up c d hp).2, by rw [fx c hc, h]; omega⟩
theorem HtW.le {A : Nat → Nat → Bool} {n : Nat} {o h r : Nat → Nat} (a : HtW A n o h) (hr : Ht A n r) (ho : ∀ c, c < n → o c ≤ 1) : ∀ N c, c < n → r c < N → h c ≤ r c + 1
 | 0, c, _, h0 => by omega
 | N + 1, c, hc, h0 => by
  have := ho c hc
  rcases a.ex c hc with e | ⟨d, hd, hne, ha, e⟩
  ·omega
  ·have h1 := hr.ge c d hc hd hne ha
   have := a.le hr ho N d hd (by omega)
   omega
/-- By the next ones alone. -/
theorem HtW.next {A E : Nat → Nat → Bool} {n : Nat} {o h : Nat → Nat} (a : HtW A n o h) (h1 : ∀ c d, E c d = true → A c d = true)
  (h2 : ∀ c d, c < n → d < n → d ≠ c → A c d = true → ∃ e, e < n ∧ e ≠ c ∧ E c e = true ∧ (e = d ∨ (d ≠ e ∧ A e d = true))) : HtW E n o h := by
 refine ⟨a.own, fun c d hc hd hne he => a.ge c d hc hd hne (h1 c d he), fun c hc => ?_⟩
 rcases a.ex c hc with e | ⟨d, hd, hne, ha, e⟩
 ·exact .inl e
 ·obtain ⟨x, x1, x2, x3, x4⟩ := h2 c d hc hd hne ha
  have g1 := a.ge c x hc x1 x2 (h1 _ _ x3)
  rcases x4 with rfl | ⟨x4, x5⟩
  ·exact .inr ⟨x, x1, x2, x3, e⟩
  ·have g2 := a.ge x d x1 hd x4 x5
   exact .inr ⟨x, x1, x2, x3, by omega⟩
end Go.Proofs.Ythjkodbinkiifaa.Am
set_option linter.unusedVariables false
open Go Go.Proofs.Ythjkodbinkiifaa.Am
namespace Go.Proofs.Ythjkodbinkiifaa.Am23
section
variable {x0 x13 z0 z7 x34 x46 x7 x19 x20 x23 x27 : Int}
variable {x1p x1o x1l x2p x2o x2l x3p x3o x3l x4p x4o x4l prot x10n x10c x12p x12o x12l x15n x15c x17p x17o x17l x18n x18c z1p z1o z1l z4p z4o z4l x31n x31c x33p x33o x33l x38n x38c x42p x42o x42l x43n x43c x45p x45o x45l x22p x22o x22l x25ap x25ao x25al x25bp x25bo x25bl x25cp x25co x25cl x25dp x25do x25dl : Nat}
variable {H H1 H2 H0 : AHeap}
variable {x10a x15a x18a x31a x38a x43a : Option Addr}
theorem f57_F_0 (h1 : getCells H x1p x1l x1o 1 = some [vS x10a x10n x10c]) (h2 : aX 22 (vS x10a x10n x10c) (vI x0) = some (vP x12p x12o x12l)) (h3 : getCells H x12p x12l x12o 1 = some [vI x13]) (h4 : (x13 == 0) = true) (h5 : getCells H x2p x2l x2o 1 = some [vS x15a x15n x15c]) (h6 : aX 86 (vS x15a x15n x15c) (vI x0) = some (vP x17p x17o x17l)) (h7 : getCells H x17p x17l x17o 1 = some [vS x18a x18n x18c]) (h8 : lI a57 0 prot H ([vI x0, vP x1p x1o x1l, vP x3p x3o x3l, vP x4p x4o x4l, vI 0, vS x18a x18n x18c, vI (↑x18n : Int), vI 0], H) = some (Ex.exit 0, [vI z0, vP z1p z1o z1l, vP z4p z4o z4l, vI z7], H1)) (h9 : getCells H1 z4p z4l z4o 1 = some [vS x31a x31n x31c]) (h10 : aX 22 (vS x31a x31n x31c) (vI z0) = some (vP x33p x33o x33l)) (h11 : getCells H1 x33p x33l x33o 1 = some [vI x34]) (h12 : x34 > 0) (h13 : Fit .i64 (z7 + 1)) (h14 : getCells H1 z1p z1l z1o 1 = some [vS x38a x38n x38c]) (h15 : Fit .i64 (z7 + 1 + 1)) (h16 : aX 22 (vS x38a x38n x38c) (vI z0) = some (vP x42p x42o x42l)) (h17 : 1 = 1) (h18 : setCells H1 prot x42p x42l x42o [vI (z7 + 1 + 1)] = some H2) (h19 : getCells H2 z1p z1l z1o 1 = some [vS x43a x43n x43c]) (h20 : aX 22 (vS x43a x43n x43c) (vI z0) = some (vP x45p x45o x45l)) (h21 : getCells H2 x45p x45l x45o 1 = some [vI x46]) : callInf cfg 57 [.int .i64 x0, .pointer (some ⟨x1p, x1o, some x1l⟩), .pointer (some ⟨x2p, x2o, some x2l⟩), .pointer (some ⟨x3p, x3o, some x3l⟩), .pointer (some ⟨x4p, x4o, some x4l⟩)] prot H = some (Value.int .i64 x46, H2) :=
 fn_of2 a57 [.v (vS x10a x10n x10c), .v (vP x12p x12o x12l), .v (vI x13), .e, .b true, .v (vS x15a x15n x15c), .v (vP x17p x17o x17l), .v (vS x18a x18n x18c), .e, .lo (.exit 0, [vI z0, vP z1p z1o z1l, vP z4p z4o z4l, vI z7], H1), .v (vS x31a x31n x31c), .v (vP x33p x33o x33l), .v (vI x34), .e, .b true, .e, .v (vS x38a x38n x38c), .e, .v (vP x42p x42o x42l), .h H2, .v (vS x43a x43n x43c), .v (vP x45p x45o x45l), .v (vI x46)] (ai h1 (ai h2 (ai h3 (ai h4 (ai h5 (ai h6 (ai h7 (ai h8 (ai h9 (ai h10 (ai h11 (ai (decide_eq_true h12) (ai h13 (ai h14 (ai h15 (ai h16 (ai h17 (ai h18 (ai h19 (ai h20 (ai h21 (Eq.refl ((vI x46, H2) : Value × AHeap))))))))))))))))))))))) (by kernel_rfl) rfl
theorem f57_F_1 (h1 : getCells H x1p x1l x1o 1 = some [vS x10a x10n x10c]) (h2 : aX 22 (vS x10a x10n x10c) (vI x0) = some (vP x12p x12o x12l)) (h3 : getCells H x12p x12l x12o 1 = some [vI x13]) (h4 : (x13 == 0) = true) (h5 : getCells H x2p x2l x2o 1 = some [vS x15a x15n x15c]) (h6 : aX 86 (vS x15a x15n x15c) (vI x0) = some (vP x17p x17o x17l)) (h7 : getCells H x17p x17l x17o 1 = some [vS x18a x18n x18c]) (h8 : lI a57 0 prot H ([vI x0, vP x1p x1o x1l, vP x3p x3o x3l, vP x4p x4o x4l, vI 0, vS x18a x18n x18c, vI (↑x18n : Int), vI 0], H) = some (Ex.exit 0, [vI z0, vP z1p z1o z1l, vP z4p z4o z4l, vI z7], H1)) (h9 : getCells H1 z4p z4l z4o 1 = some [vS x31a x31n x31c]) (h10 : aX 22 (vS x31a x31n x31c) (vI z0) = some (vP x33p x33o x33l)) (h11 : getCells H1 x33p x33l x33o 1 = some [vI x34]) (h12 : ¬(x34 > 0)) (h13 : getCells H1 z1p z1l z1o 1 = some [vS x38a x38n x38c]) (h14 : Fit .i64 (z7 + 1)) (h15 : aX 22 (vS x38a x38n x38c) (vI z0) = some (vP x42p x42o x42l)) (h16 : 1 = 1) (h17 : setCells H1 prot x42p x42l x42o [vI (z7 + 1)] = some H2) (h18 : getCells H2 z1p z1l z1o 1 = some [vS x43a x43n x43c]) (h19 : aX 22 (vS x43a x43n x43c) (vI z0) = some (vP x45p x45o x45l)) (h20 : getCells H2 x45p x45l x45o 1 = some [vI x46]) : callInf cfg 57 [.int .i64 x0, .pointer (some ⟨x1p, x1o, some x1l⟩), .pointer (some ⟨x2p, x2o, some x2l⟩), .pointer (some ⟨x3p, x3o, some x3l⟩), .pointer (some ⟨x4p, x4o, some x4l⟩)] prot H = some (Value.int .i64 x46, H2) :=
 fn_of2 a57 [.v (vS x10a x10n x10c), .v (vP x12p x12o x12l), .v (vI x13), .e, .b true, .v (vS x15a x15n x15c), .v (vP x17p x17o x17l), .v (vS x18a x18n x18c), .e, .lo (.exit 0, [vI z0, vP z1p z1o z1l, vP z4p z4o z4l, vI z7], H1), .v (vS x31a x31n x31c), .v (vP x33p x33o x33l), .v (vI x34), .e, .b false, .v (vS x38a x38n x38c), .e, .v (vP x42p x42o x42l), .h H2, .v (vS x43a x43n x43c), .v (vP x45p x45o x45l), .v (vI x46)] (ai h1 (ai h2 (ai h3 (ai h4 (ai h5 (ai h6 (ai h7 (ai h8 (ai h9 (ai h10 (ai h11 (ai (decide_eq_false h12) (ai h13 (ai h14 (ai h15 (ai h16 (ai h17 (ai h18 (ai h19 (ai h20 (Eq.refl ((vI x46, H2) : Value × AHeap)))))))))))))))))))))) (by kernel_rfl) rfl
theorem f57_F_2 (h1 : getCells H x1p x1l x1o 1 = some [vS x10a x10n x10c]) (h2 : aX 22 (vS x10a x10n x10c) (vI x0) = some (vP x12p x12o x12l)) (h3 : getCells H x12p x12l x12o 1 = some [vI x13]) (h4 : (x13 == 0) = false) (h5 : getCells H x1p x1l x1o 1 = some [vS x43a x43n x43c]) (h6 : aX 22 (vS x43a x43n x43c) (vI x0) = some (vP x45p x45o x45l)) (h7 : getCells H x45p x45l x45o 1 = some [vI x46]) : callInf cfg 57 [.int .i64 x0, .pointer (some ⟨x1p, x1o, some x1l⟩), .pointer (some ⟨x2p, x2o, some x2l⟩), .pointer (some ⟨x3p, x3o, some x3l⟩), .pointer (some ⟨x4p, x4o, some x4l⟩)] prot H = some (Value.int .i64 x46, H) :=
 fn_of2 a57 [.v (vS x10a x10n x10c), .v (vP x12p x12o x12l), .v (vI x13), .e, .b false, .v (vS x43a x43n x43c), .v (vP x45p x45o x45l), .v (vI x46)] (ai h1 (ai h2 (ai h3 (ai h4 (ai h5 (ai h6 (ai h7 (Eq.refl ((vI x46, H) : Value × AHeap))))))))) (by kernel_rfl) rfl
theorem f57_L0_0 (h1 : x20 < x19) (h2 : aX 22 (vS x18a x18n x18c) (vI x20) = some (vP x22p x22o x22l)) (h3 : getCells H x22p x22l x22o 1 = some [vI x23]) (h4 : getCells H x3p x3l x3o 1 = some [Value.func (Fn.func 57) #[] #[vP x25ap x25ao x25al, vP x25bp x25bo x25bl, vP x25cp x25co x25cl, vP x25dp x25do x25dl]]) (h5 : cI 57 [vI x23, vP x25ap x25ao x25al, vP x25bp x25bo x25bl, vP x25cp x25co x25cl, vP x25dp x25do x25dl] prot H = some (vI x27, H2)) (h6 : Fit .i64 (x27 - 1)) (h7 : Fit .i64 (x20 + 1)) : lpOf cfg a57 0 prot H0 ([.int .i64 x0, .pointer (some ⟨x1p, x1o, some x1l⟩), .pointer (some ⟨x3p, x3o, some x3l⟩), .pointer (some ⟨x4p, x4o, some x4l⟩), .int .i64 x7, .slice x18a x18n x18c, .int .i64 x19, .int .i64 x20], H) = some (Sum.inl ([Value.int .i64 x0, Value.pointer (some ⟨x1p, x1o, some x1l⟩), Value.pointer (some ⟨x3p, x3o, some x3l⟩), Value.pointer (some ⟨x4p, x4o, some x4l⟩), Value.int .i64 (if x27 - 1 > x7 then x27 - 1 else x7), Value.slice x18a x18n x18c, Value.int .i64 x19, Value.int .i64 (x20 + 1)], H2)) :=
 lp_of2 [.e, .b true, .v (vP x22p x22o x22l), .v (vI x23), .v (.func (.func 57) #[] #[vP x25ap x25ao x25al, vP x25bp x25bo x25bl, vP x25cp x25co x25cl, vP x25dp x25do x25dl]), .r (vI x27) H2, .e, .e, .e] (ai (decide_eq_true h1) (ai h2 (ai h3 (ai h4 (ai h5 (ai h6 (ai h7 (Eq.refl (Sum.inl ([vI x0, vP x1p x1o x1l, vP x3p x3o x3l, vP x4p x4o x4l, vI (if x27 - 1 > x7 then x27 - 1 else x7), vS x18a x18n x18c, vI x19, vI (x20 + 1)], H2) : LS ⊕ LO))))))))) (by kernel_rfl)
theorem f57_L0_1 (h1 : ¬(x20 < x19)) : lpOf cfg a57 0 prot H0 ([.int .i64 x0, .pointer (some ⟨x1p, x1o, some x1l⟩), .pointer (some ⟨x3p, x3o, some x3l⟩), .pointer (some ⟨x4p, x4o, some x4l⟩), .int .i64 x7, .slice x18a x18n x18c, .int .i64 x19, .int .i64 x20], H) = some (Sum.inr (Ex.exit 0, [Value.int .i64 x0, Value.pointer (some ⟨x1p, x1o, some x1l⟩), Value.pointer (some ⟨x4p, x4o, some x4l⟩), Value.int .i64 x7], H)) :=
 lp_of2 [.e, .b false] (ai (decide_eq_false h1) (Eq.refl (Sum.inr (Ex.exit 0, [vI x0, vP x1p x1o x1l, vP x4p x4o x4l, vI x7], H) : LS ⊕ LO))) (by kernel_rfl)
end
end Go.Proofs.Ythjkodbinkiifaa.Am23
namespace Go.Proofs.Ythjkodbinkiifaa.Am23
open Go Go.Proofs.Ythjkodbinkiifaa.Am
open Am23g (addE Out Mine out_start gc_mine Gr nl)
/-! Growth: the memo and the walk. -/
abbrev fGr (p1 p2 p3 p4 : Nat) : Value := .func (.func 57) #[] #[.pointer (some ⟨p1, 0, some 1⟩), .pointer (some ⟨p2, 0, some 1⟩), .pointer (some ⟨p3, 0, some 1⟩), .pointer (some ⟨p4, 0, some 1⟩)]
structure WG (fc : Value) (B : Nat) (H : AHeap) (n : Nat) (T : Nat → List Nat) (g E : Nat → Nat) (xd xg xe : Value) (od oe p1 p2 p3 p4 : Nat) (D : Nat → Nat) : Prop where
 w : WM fc B H n T g xd xg od p1 p2 p3 D
 g4 : H[p4]? = some (.cells [xe] 22 1 .var)
 ow : Own H 3 1 xe (some oe) n (il (faL E n))
 ne : oe ≠ od
 n4 : od ≠ p4
theorem WG.keep {fc : Value} {B : Nat} {H H' : AHeap} {n : Nat} {T : Nat → List Nat} {g E : Nat → Nat} {xd xg xe : Value} {od oe p1 p2 p3 p4 : Nat} {D D' : Nat → Nat} (h : WG fc B H n T g E xd xg xe od oe p1 p2 p3 p4 D) (w : WM fc B H' n T g xd xg od p1 p2 p3 D') (s : Stay (some od) H H') : WG fc B H' n T g E xd xg xe od oe p1 p2 p3 p4 D' :=
 ⟨w, by rw [s.2 _ (List.getElem?_eq_some_iff.1 h.g4).1 (fun e => h.n4 (Option.some.inj e))]; exact h.g4, h.ow.stay s (fun id e1 e2 => by cases e1; exact h.ne (Option.some.inj e2).symm), h.ne, h.n4⟩
theorem loop57 {B n : Nat} {T : Nat → List Nat} {h o E r : Nat → Nat} (hn : n ≤ 512) (hh : HtW (fun c d => decide (d ∈ T c)) n o h) (hT : ∀ c d, d ∈ T c → d < n ∧ d ≠ c ∧ r d < r c) (hT2 : ∀ c, (T c).length ≤ 1000000) (hb : ∀ c, c < n → h c ≤ 1000) {xd xg xe : Value} {od oe p1 p2 p3 p4 prot c : Nat} (hp : prot ≤ od) (hc : c < n)
  (ih : ∀ d H D, d < n → r d < r c → WG (fGr p1 p2 p3 p4) B H n T (fun c => h c + 1) E xd xg xe od oe p1 p2 p3 p4 D → ∃ D' H', callInf cfg 57 [.int .i64 d, .pointer (some ⟨p1, 0, some 1⟩), .pointer (some ⟨p2, 0, some 1⟩), .pointer (some ⟨p3, 0, some 1⟩), .pointer (some ⟨p4, 0, some 1⟩)] prot H = some (.int .i64 ((h d + 1 : Nat) : Int), H') ∧ WG (fGr p1 p2 p3 p4) B H' n T (fun c => h c + 1) E xd xg xe od oe p1 p2 p3 p4 D' ∧ Stay (some od) H H')
  {H0 : AHeap} {x : Value} (hne : ∀ id off L n' c, x = .slice (some ⟨id, off, some L⟩) n' c → some od ≠ some id) : ∀ (d i m : Nat) (H : AHeap) (D : Nat → Nat), i + d = (T c).length → Rd H 3 1 x (T c).length (il (nl (T c))) → WG (fGr p1 p2 p3 p4) B H n T (fun c => h c + 1) E xd xg xe od oe p1 p2 p3 p4 D →
   (∀ j u, j < i → (T c)[j]? = some u → h u ≤ m) → (m = 0 ∨ ∃ u, u ∈ T c ∧ m = h u) →
  ∃ D' H' m', lpInf (lpOf cfg a57 0 prot H0) ([.int .i64 c, .pointer (some ⟨p1, 0, some 1⟩), .pointer (some ⟨p3, 0, some 1⟩), .pointer (some ⟨p4, 0, some 1⟩), .int .i64 m, x, .int .i64 (T c).length, .int .i64 i], H) = some (.exit 0, [.int .i64 c, .pointer (some ⟨p1, 0, some 1⟩), .pointer (some ⟨p4, 0, some 1⟩), .int .i64 (m' : Nat)], H') ∧ WG (fGr p1 p2 p3 p4) B H' n T (fun c => h c + 1) E xd xg xe od oe p1 p2 p3 p4 D' ∧ Stay (some od) H H' ∧ m' + o c = h c
 | 0, i, m, H, D, hi, hr, hw, hm1, hm2 => by
  have hmc : m + o c = h c := by
   have le1 : m + o c ≤ h c := by
    rcases hm2 with e | ⟨u, u1, e⟩
    ·have := hh.own c hc; omega
    ·have := hh.ge c u hc (hT c u u1).1 (hT c u u1).2.1 (decide_eq_true u1); omega
   rcases hh.ex c hc with e | ⟨u, u1, u2, u3, e⟩
   ·omega
   ·obtain ⟨j, hj⟩ := List.getElem?_of_mem (of_decide_eq_true u3)
    have := hm1 j u (by have := (List.getElem?_eq_some_iff.1 hj).1; omega) hj
    omega
  obtain ⟨_, _, hre⟩ := hr.len
  refine ⟨D, H, m, ?_, hw, Stay.refl _ _, hmc⟩
  rw [hre]
  exact lp_last (f57_L0_1 (by omega))
 | d + 1, i, m, H, D, hi, hr, hw, hm1, hm2 => by
  have hil : i < (T c).length := by omega
  have hll := hT2 c
  obtain ⟨u, hu⟩ : ∃ u, (T c)[i]? = some u := ⟨_, List.getElem?_eq_getElem hil⟩
  have hum : u ∈ T c := List.mem_of_getElem? hu
  obtain ⟨hun, huc, hur⟩ := hT c u hum
  have hub := hb u hun
  have hcs : (il (nl (T c)))[i]? = some (.int .i64 ((u : Nat) : Int)) := by
   unfold il nl; rw [List.getElem?_map, List.getElem?_map, hu]; rfl
  obtain ⟨id, L, a1, a2⟩ := rd_at T22 hr hcs
  have fi : Fit .i64 ((i : Int) + 1) := fit64 (by omega) (by omega)
  obtain ⟨ax, cx, hre⟩ := hr.len
  obtain ⟨D1, H1, c1, c2, c3⟩ := ih u H D hun hur hw
  have hif : ((if ((h u + 1 : Nat) : Int) - 1 > ((m : Nat) : Int) then ((h u + 1 : Nat) : Int) - 1 else ((m : Nat) : Int))) = ((max (h u) m : Nat) : Int) := by split <;> omega
  obtain ⟨D', H', m', z1, z2, z3, z4⟩ := loop57 hn hh hT hT2 hb hp hc ih (H0 := H0) hne d (i + 1) (max (h u) m) H1 D1 (by omega) (hr.stayNe c3 hne) c2 (fun j v hj hv => by
   by_cases ej : j = i
   ·subst ej; rw [hu] at hv; cases hv; omega
   ·have := hm1 j v (by omega) hv; omega) (by
   rcases Nat.le_total (h u) m with g | g
   ·rw [Nat.max_eq_right g]; exact hm2
   ·rw [Nat.max_eq_left g]; exact .inr ⟨u, hum, rfl⟩)
  refine ⟨D', H', m', ?_, z2, c3.trans z3, z4⟩
  rw [← hif] at z1
  have g3 := one_get hw.w.g3
  rw [hre] at a1 z1 ⊢
  exact lp_next (f57_L0_0 (by omega) a1 a2 g3 c1 (fit64 (by omega) (by omega)) fi) z1
theorem c57 {B n : Nat} {T : Nat → List Nat} {h o E r : Nat → Nat} (hn : n ≤ 512) (hh : HtW (fun c d => decide (d ∈ T c)) n o h) (hT : ∀ c d, d ∈ T c → d < n ∧ d ≠ c ∧ r d < r c) (hT2 : ∀ c, (T c).length ≤ 1000000) (hb : ∀ c, c < n → h c ≤ 1000) (ho : ∀ c, c < n → o c = min 1 (E c)) {xd xg xe : Value} {od oe p1 p2 p3 p4 prot : Nat} (hp : prot ≤ od) : ∀ N c H D, c < n → r c < N → WG (fGr p1 p2 p3 p4) B H n T (fun c => h c + 1) E xd xg xe od oe p1 p2 p3 p4 D →
  ∃ D' H', callInf cfg 57 [.int .i64 c, .pointer (some ⟨p1, 0, some 1⟩), .pointer (some ⟨p2, 0, some 1⟩), .pointer (some ⟨p3, 0, some 1⟩), .pointer (some ⟨p4, 0, some 1⟩)] prot H = some (.int .i64 ((h c + 1 : Nat) : Int), H') ∧ WG (fGr p1 p2 p3 p4) B H' n T (fun c => h c + 1) E xd xg xe od oe p1 p2 p3 p4 D' ∧ Stay (some od) H H'
 | 0, c, H, D, _, h0, _ => by omega
 | N + 1, c, H, D, hc, hN, hw => by
  have hbc := hb c hc
  have g1 := one_get hw.w.g1
  obtain ⟨id, L, a1, a2⟩ := own_at T22 hw.w.dp (faL_get hc)
  obtain ⟨ad, cd, hd⟩ := hw.w.dp.len
  by_cases h0 : D c = 0
  ·have g2 := one_get hw.w.g2
   obtain ⟨cs, r1, r2⟩ := hw.w.rd
   obtain ⟨r, q1, q2, q3⟩ := r2 c hc
   obtain ⟨i2, L2, b1, b2⟩ := rd_at Am23g.T22 r1 q1
   obtain ⟨D1, H2, m', z1, z2, z3, z4⟩ := loop57 hn hh hT hT2 hb hp hc (fun d H D h1 h2 h3 => c57 hn hh hT hT2 hb ho hp N d H D h1 (by omega) h3) (H0 := H) q3 (T c).length 0 0 H D (by omega) q2 hw (fun j u hj => by omega) (.inl rfl)
   obtain ⟨L3, H3, e1, e2, e3, e4⟩ := z2.w.put hc hp
   obtain ⟨i5, L5, q4, q5⟩ := own_at T22 e3.dp (faL_get hc)
   have hst : stF D1 c (h c + 1) c = h c + 1 := by unfold stF; rw [if_pos rfl]
   rw [hst] at q5
   refine ⟨_, H3, ?_, z2.keep e3 e4, z3.trans e4⟩
   obtain ⟨ax, cx, hx⟩ := q2.len
   obtain ⟨ay, cy, hs⟩ := r1.len
   rw [h0] at a2
   have gg1 := one_get z2.w.g1
   have gg3 := one_get e3.g1
   have gg4 := one_get z2.g4
   obtain ⟨i6, L6, k1, k2⟩ := own_at T22 z2.ow (faL_get hc)
   obtain ⟨ae, ce, he⟩ := z2.ow.len
   have hoc := ho c hc
   subst hx; subst hs; subst hd; subst he
   by_cases hE : 0 < E c
   ·have e2' : setCells H2 prot od L3 c [.int .i64 ((m' : Int) + 1 + 1)] = some H3 := by
     rw [show ((m' : Int) + 1 + 1) = ((h c + 1 : Nat) : Int) by omega]; exact e2
    exact f57_F_0 g1 a1 a2 (by simp) g2 b1 b2 z1 gg4 k1 k2 (by omega) (fit64 (by omega) (by omega)) gg1 (fit64 (by omega) (by omega)) e1 rfl e2' gg3 q4 q5
   ·have e2' : setCells H2 prot od L3 c [.int .i64 ((m' : Int) + 1)] = some H3 := by
     rw [show ((m' : Int) + 1) = ((h c + 1 : Nat) : Int) by omega]; exact e2
    exact f57_F_1 g1 a1 a2 (by simp) g2 b1 b2 z1 gg4 k1 k2 (by omega) gg1 (fit64 (by omega) (by omega)) e1 rfl e2' gg3 q4 q5
  ·have hok : D c = h c + 1 := by rcases hw.w.ok c hc with e | e; exact absurd e h0; exact e
   rw [hok] at a2
   refine ⟨D, H, ?_, hw, Stay.refl _ _⟩
   subst hd
   exact f57_F_2 g1 a1 a2 (by simp; omega) g1 a1 a2
end Go.Proofs.Ythjkodbinkiifaa.Am23
namespace Go.Proofs.Ythjkodbinkiifaa.Am23g
open Go Go.Proofs.Ythjkodbinkiifaa.Am Am23
/-! A row grows; what else there is stays. -/
theorem Out.appQ {B p : Nat} (hp : p ≤ B) {H : AHeap} {x3 : Value} {N : Nat} {r : Nat → Value} {o : Nat → Option Nat} {o3 : Nat} {T : Nat → List Nat} (h : Out B H x3 N r o o3 T) {u : Nat} (hu : u < N) (v : Nat) {room : Bool} (hn : (T u).length ≤ 10000000) (hB : B ≤ H.length) :
  ∃ a' c' H2 H3 id3 L3, aindexAddr cfg.P 86 x3 (.int .i64 (u : Nat)) = some (.pointer (some ⟨id3, u, some L3⟩)) ∧ getCells H id3 L3 u 1 = some [r u] ∧
   aappend cfg.P p room 22 22 (r u) (.slice (some ⟨H.length, 0, some (1 * 1)⟩) 1 1) (H ++ [wo [.int .i64 (v : Int)] 3]) = some (.slice a' ((T u).length + 1) c', H2) ∧
   setCells H2 p id3 L3 u [.slice a' ((T u).length + 1) c'] = some H3 ∧ (∃ r' o', Out B H3 x3 N r' o' o3 (addE T u v) ∧ ∀ j a, j < N → o' j = some a → o j = some a ∨ H.length ≤ a) ∧ (∀ q, q < H.length → q ≠ o3 → (∀ j, j < N → o j ≠ some q) → H3[q]? = H[q]?) ∧ H.length ≤ H3.length := by
 have hru := h.rx u hu
 obtain ⟨a', c', ou, H2, q1, q2, q3, q4, q5, q6⟩ := own_app T34 hru (ecs := [.int .i64 (v : Int)]) rfl rfl (prot := p) (room := room) (fun id e => Nat.le_trans hp (h.bo u hu id e)) (Nat.le_trans hp hB) (by omega) (L := 1 * 1) rfl (el := [Value.int .i64 (v : Int)].length) rfl
 obtain ⟨id, e3, p1, p2⟩ := own_at T22 h.x3 (range_at r hu)
 cases e3
 have hx2 : Own H2 22 1 x3 (some o3) N ((List.range N).map r) := by
  cases ho : o u with
  | none => rw [ho] at q3; exact h.x3.stay q3 (fun _ _ e => by cases e)
  | some a =>
   rw [ho] at q3 hru
   obtain ⟨_, _, _, wr, _, hH⟩ := hru
   exact h.x3.stayE hH (by decide) q3
 obtain ⟨id, H3, e3, s1, s2, s3, s4, s5⟩ := own_setS T22 hx2 (i := u) (j := 0) hu (vs := [.slice a' ((T u).length + 1) c']) (by simp) rfl (prot := p) (fun id e => by cases e; exact Nat.le_trans hp h.b3)
 cases e3
 obtain ⟨_, _, _, wr3, _, hH3⟩ := hx2
 have hput : putList ((List.range N).map r) (u * 1 + 0) [.slice a' ((T u).length + 1) c'] = (List.range N).map (fun j => if j = u then .slice a' ((T u).length + 1) c' else r j) := by
  rw [Nat.mul_one, Nat.add_zero, put_one _ (by simp; exact hu)]
  apply List.ext_getElem?
  intro j
  by_cases e : j = u
  ·subst e
   rw [List.getElem?_set_self (by simp; exact hu), range_at _ hu, if_pos rfl]
  ·rw [List.getElem?_set_ne (fun h => e h.symm), List.getElem?_map, List.getElem?_map]
   by_cases hj : j < N
   ·rw [List.getElem?_range hj]; simp [e]
   ·rw [List.getElem?_eq_none (by simp; omega)]; rfl
 rw [hput] at s3
 have hil : il (nl (T u)) ++ [Value.int .i64 (v : Int)] = il (nl (T u ++ [v])) := by simp [il, nl]
 rw [hil] at q2
 rw [Nat.mul_one, Nat.add_zero] at s2
 refine ⟨a', c', H2, H3, o3, _, p1, p2, q1, s2, ⟨_, fun j => if j = u then some ou else o j, ⟨s3, fun j hj => ?_, h.b3, fun j hj a ha => ?_, ?_⟩, fun j a hj ha => ?_⟩, fun q hq hq3 hqo => ?_, ?_⟩
 ·by_cases e : j = u
  ·subst e
   rw [if_pos rfl, if_pos rfl]
   unfold addE
   rw [if_pos rfl, List.length_append]
   exact q2.stayE hH3 (by decide) s4
  ·rw [if_neg e, if_neg e]
   unfold addE
   rw [if_neg e]
   exact ((h.rx j hj).stay q3 (fun id e1 e2 => h.dis j u hj hu e id e1 e2)).stayE hH3 (by decide) s4
 ·by_cases e : j = u
  ·subst e
   rw [if_pos rfl] at ha
   cases ha
   cases hou : o j with
   | none => exact Nat.le_trans hB (q5 hou)
   | some a0 => rw [q6 a0 hou]; exact h.bo j hj a0 hou
  ·rw [if_neg e] at ha
   exact h.bo j hj a ha
 ·have hnew : ∀ j, j < N → j ≠ u → o j ≠ some ou := fun j hj hne e => by
   cases ho : o u with
   | none =>
    have h1 := q5 ho
    have h2 := h.rx j hj
    rw [e] at h2
    have := own_lt h2
    omega
   | some a =>
    have h1 := q6 a ho
    exact h.dis j u hj hu hne ou e (by rw [ho, h1])
  intro i j hi hj hne a ha hb
  simp only at ha hb
  by_cases e1 : i = u
  ·have e2 : j ≠ u := fun e2 => hne (by rw [e1, e2])
   rw [if_pos e1] at ha
   rw [if_neg e2] at hb
   cases ha
   exact hnew j hj e2 hb
  ·rw [if_neg e1] at ha
   by_cases e2 : j = u
   ·rw [if_pos e2] at hb
    cases hb
    exact hnew i hi e1 ha
   ·rw [if_neg e2] at hb
    exact h.dis i j hi hj hne a ha hb
 ·simp only at ha
  by_cases e : j = u
  ·subst e
   rw [if_pos rfl] at ha
   cases ha
   cases hou : o j with
   | none => exact .inr (q5 hou)
   | some a0 => rw [q6 a0 hou]; exact .inl rfl
  ·rw [if_neg e] at ha
   exact .inl ha
 ·rw [s4.2 q (by have := q3.1; omega) (fun e => hq3 (Option.some.inj e).symm)]
  exact q3.2 q hq (hqo u hu)
 ·have := q3.1; have := s4.1; omega
end Go.Proofs.Ythjkodbinkiifaa.Am23g
namespace Go.Proofs.Ythjkodbinkiifaa.Am23g
open Go Go.Proofs.Ythjkodbinkiifaa.Am Am23
theorem c36 {G : List (List Int)} (hG : Good G) {vG x1 : Value} (prot : Nat) {H : AHeap} (hg : Gr H vG G) (hw : WL G H x1) (hx1 : ∃ a c, x1 = .slice a G.length c) :
  ∃ x' H', callInf cfg 73 [vG, x1] prot H = some (.tuple #[x', .int .i64 (comp G).2], H') ∧ OwnE H' 3 x' G.length (il (nl (comp G).1)) H.length ∧ (comp G).1.length = G.length ∧ Stay none H H' := by
 have h5 := hG.1
 obtain ⟨aG, cG, rfl⟩ := hg.len
 by_cases h0 : 0 < G.length
 ·obtain ⟨HA, hHA⟩ : ∃ HA, HA = H ++ [AObj.cells (repCells [.int .i64 0] G.length) 3 (repCells [.int .i64 0] G.length).length .row] := ⟨_, rfl⟩
  have sA : Stay none H HA := by rw [hHA]; exact Stay.app none H _
  have m : Own HA 3 1 (.slice (some ⟨H.length, 0, some (G.length * 1)⟩) G.length G.length) (some H.length) G.length (il (pad G.length (nl []))) := by
   rw [hHA]
   have := own_mk (e := 3) h0 H (.int .i64 0)
   have e1 : il (pad G.length (nl [])) = List.replicate G.length (.int .i64 0) := by simp [il, pad, nl]
   rw [e1]
   exact this
  obtain ⟨H1, z1, z2, z3, z4⟩ := loop36o hG hw (Nat.le_refl _) (H0 := H) (Nat.le_refl _) (prot := prot) hx1 G.length 0 [] 0 HA (by omega) rfl (Nat.le_refl _) (fun x h => by cases h) sA m
  obtain ⟨x', o', H', g1, g2, g3, g4, _⟩ := gc_row (H := H) (ps := [.int .i64 ((comp G).2 : Nat)]) z2 (fun id h => by cases h; exact Nat.le_refl _) (il_plain _) rfl
  refine ⟨x', H', ?_, .inl ⟨o', g2, g4⟩, z3, g3⟩
  obtain ⟨ax, cx, rfl⟩ := hx1
  subst hHA
  exact f73_F_0 _ _ (by omega) rfl (by omega) (by omega) z1 (by rw [pfin_eq, if_neg (by simp [a73])]; exact g1)
 ·have hn : G = [] := List.eq_nil_of_length_eq_zero (by omega)
  subst hn
  obtain ⟨ax, cx, rfl⟩ := hx1
  have hl : lpInf (lpOf cfg a73 0 prot H) ([.slice ax 0 cx, .slice (some ⟨H.length, 0, some (0 * 1)⟩) 0 0, .int .i64 0, .int .i64 ((0 : Nat) : Int), .int .i64 0], H ++ [AObj.cells (repCells [.int .i64 0] 0) 3 (repCells [.int .i64 0] 0).length .row]) = some (.exit 0, [.slice (some ⟨H.length, 0, some (0 * 1)⟩) 0 0, .int .i64 0], H ++ [AObj.cells (repCells [.int .i64 0] 0) 3 (repCells [.int .i64 0] 0).length .row]) :=
   lp_last (f73_L0_2 (by decide))
  have hE : OwnE (H ++ [AObj.cells (repCells [.int .i64 0] 0) 3 (repCells [.int .i64 0] 0).length .row]) 3 (.slice (some ⟨H.length, 0, some (0 * 1)⟩) 0 0) 0 [] H.length := .inr ⟨rfl, rfl, H.length, rfl, Nat.le_refl _, append_get.1⟩
  obtain ⟨x', H', g1, g2, g3⟩ := gcE (H := H) hE rfl (ps := [.int .i64 0]) rfl
  exact ⟨x', H', f73_F_0 _ _ (by omega) rfl (by omega) (by decide) hl (by rw [pfin_eq, if_neg (by simp [a73])]; exact g1), g2, rfl, g3⟩

theorem c18 {G : List (List Int)} (hs : Short G) {vG : Value} (prot : Nat) {H : AHeap} (hg : Gr H vG G) :
  (chk G ≠ 0 ∧ callInf cfg 56 [vG] prot H = some (.tuple #[.slice none 0 0, .int .i64 0, .int .i64 (chk G)], H)) ∨
  (chk G = 0 ∧ ∃ x' H', callInf cfg 56 [vG] prot H = some (.tuple #[x', .int .i64 (comp G).2, .int .i64 0], H') ∧ OwnE H' 3 x' G.length (il (nl (comp G).1)) H.length ∧ (comp G).1.length = G.length ∧ Stay none H H') := by
 have h25 := c25 hs H.length hg
 have hgl := hg.len
 by_cases h : chk G = 0
 ·refine .inr ⟨h, ?_⟩
  have hG := good_of hs h
  obtain ⟨a, c, H1, w1, w2, w3⟩ := c37 hG H.length hg
  obtain ⟨y, H2, n1, n2, n3, n4⟩ := c36 hG H.length (hg.stay w3) w2 ⟨a, c, rfl⟩
  obtain ⟨x', H', g1, g2, g3⟩ := gcE (H := H) (n2.weak w3.1) (il_plain _) (ps := [.int .i64 ((comp G).2 : Nat), .int .i64 0]) rfl
  refine ⟨x', H', ?_, g2, n3, g3⟩
  obtain ⟨aG, cG, rfl⟩ := hgl
  obtain ⟨ay, cy, rfl⟩ := n2.rd.len
  exact f56_F_1 _ _ h25 (by simp [h]) w1 n1 (by rw [pfin_eq, if_neg (by simp [a56])]; exact g1)
 ·refine .inl ⟨h, ?_⟩
  obtain ⟨aG, cG, rfl⟩ := hgl
  exact f56_F_0 h25 (by simpa using h)
end Go.Proofs.Ythjkodbinkiifaa.Am23g
set_option linter.unusedVariables false
namespace Go.Proofs.Ythjkodbinkiifaa.Am23g
open Go Go.Proofs.Ythjkodbinkiifaa.Am Am23
section
variable {x0 : Array Value}
variable {x1 x8 : Int}
variable {H : AHeap}
variable {prot : Nat}
theorem f63_F_0 (h1 : x0.toList.all isCell = true) (h2 : Fit .i64 (x1.tdiv 64)) (h3 : 0 ≤ x1.tdiv 64) (h4 : x1.tdiv 64 < (↑8 : Int)) (h5 : getCells (H ++ [AObj.cells x0.toList 99 x0.toList.length OMode.var]) H.length x0.toList.length (0 + (x1.tdiv 64).toNat * 1) 1 = some [Value.int .u64 x8]) (h6 : 0 ≤ IntKind.u64.wrap (x1.tmod 64)) : callInf cfg 63 [.agg x0, .int .i64 x1] prot H = some (Value.bool (IntKind.u64.wrap (↑(BitVec.ofInt IntKind.u64.bits (x8.fdiv (2 ^ min (IntKind.u64.wrap (x1.tmod 64)).toNat IntKind.u64.bits)) &&& BitVec.ofInt IntKind.u64.bits 1).toNat : Int) == 1), H) :=
 fn_of2 a63 [.e, .e, .e, .v (.int .u64 x8), .e, .e, .e, .e, .e] (ai h1 (ai (show (64 : Int) ≠ 0 by decide) (ai h2 (ai h3 (ai h4 (ai h5 (ai (show (64 : Int) ≠ 0 by decide) (ai h6 (Eq.refl ((Value.bool (IntKind.u64.wrap (↑(BitVec.ofInt IntKind.u64.bits (x8.fdiv (2 ^ min (IntKind.u64.wrap (x1.tmod 64)).toNat IntKind.u64.bits)) &&& BitVec.ofInt IntKind.u64.bits 1).toNat : Int) == 1), H) : Value × AHeap)))))))))) (by kernel_rfl) rfl
end
end Go.Proofs.Ythjkodbinkiifaa.Am23g
namespace Go.Proofs.Ythjkodbinkiifaa.Am23g
open Go Go.Proofs.Ythjkodbinkiifaa.Am Am23
theorem z39 : tzero cfg.P 99 = some (.agg ((List.replicate 8 (.int .u64 0)).toArray)) := by kernel_rfl
theorem al39 (H : AHeap) : aalloc cfg.P 99 H = some (.pointer (some ⟨H.length, 0, some 8⟩), H ++ [.cells (setL noS) 99 8 .var]) := by
 rw [setL_no]; exact alloc_arr z39 rfl H
theorem pf_plain {fn : AFunc} {H H' : AHeap} {vs : List Value} (hm : fn.muts = false) (h : vs.all plain1 = true) : pfin fn H vs H' = (tupled vs, H) := by
 rw [pfin_eq, if_neg (by simp [hm])]; exact gc_plain h

theorem c20 {S : Nat → Bool} {i : Nat} (hi : i < 512) (prot : Nat) (H : AHeap) : callInf cfg 63 [.agg (setA S), .int .i64 i] prot H = some (.bool (S i), H) := by
 have gA : (H ++ [AObj.cells (setL S) 99 (setL S).length .var])[H.length]? = some (.cells (setL S) 99 8 .var) := by rw [append_get.1, setL_len]
 have ed : (i : Int).tdiv 64 = ((i / 64 : Nat) : Int) := tdiv64 i
 have hw : i / 64 < 8 := by omega
 have r1 := arr_get gA (setL_len S) (setL_get hw)
 have em : IntKind.u64.wrap ((i : Int).tmod 64) = ((i % 64 : Nat) : Int) := by rw [tmod64, u64_wrapN, Nat.mod_eq_of_lt (by omega)]
 have hand := bit_and (a := wordS S (i / 64)) (i := i) (wordS_lt _ _) em
 have e8 : (setA S).toList.length = 8 := setL_len S
 have h := f63_F_0 (x0 := setA S) (x1 := (i : Int)) (x8 := ((wordS S (i / 64) : Nat) : Int)) (H := H) (prot := prot) (setL_cell S) (by rw [ed]; exact fit64 (by omega) (by omega)) (by rw [ed]; omega) (by rw [ed]; omega) (by rw [e8, ed, Int.toNat_natCast]; exact r1) (by rw [em]; omega)
 rw [hand] at h
 have hb : (((wordS S (i / 64) / 2 ^ (i % 64) % 2 : Nat) : Int) == 1) = S i := by
  rw [Bool.eq_iff_iff, beq_iff_eq, ← wordS_bit]
  omega
 rw [hb] at h
 exact h
end Go.Proofs.Ythjkodbinkiifaa.Am23g
namespace Go.Proofs.Ythjkodbinkiifaa.Am23g
open Go Go.Proofs.Ythjkodbinkiifaa.Am Am23
/-- All that is reached, the vertex too. -/
noncomputable def rs (G : List (List Int)) (f : Nat) : Nat → Bool := fun x => @decide (x = f ∨ Rch G f x) (Classical.propDecidable _)
theorem rs_iff {G : List (List Int)} {f x : Nat} : rs G f x = true ↔ x = f ∨ Rch G f x := by unfold rs; exact @decide_eq_true_iff _ (Classical.propDecidable _)
end Go.Proofs.Ythjkodbinkiifaa.Am23g
namespace Go.Proofs.Ythjkodbinkiifaa.Am23g
open Go Go.Proofs.Ythjkodbinkiifaa.Am Am23
end Go.Proofs.Ythjkodbinkiifaa.Am23g
namespace Go.Proofs.Ythjkodbinkiifaa.Am23g
open Go Go.Proofs.Ythjkodbinkiifaa.Am Am23
def Mu (G : List (List Int)) (u v : Nat) : Prop := Rch G u v ∧ Rch G v u
theorem Mu.symm {G : List (List Int)} {u v : Nat} (h : Mu G u v) : Mu G v u := ⟨h.2, h.1⟩
theorem Mu.trans {G : List (List Int)} {u v w : Nat} (h : Mu G u v) (k : Mu G v w) : Mu G u w := ⟨h.1.trans k.1, k.2.trans h.2⟩
theorem mu_Mu {G : List (List Int)} {u v : Nat} : mu G u v = true ↔ Mu G u v := mu_iff
/-- Numbers rise by one at most. -/
def pr : List Nat → Nat → Option Nat
 | [], m => some m
 | x :: l, m => if x ≤ m then pr l (max m (x + 1)) else none
theorem pr_snoc {x n : Nat} (hx : x ≤ n) : ∀ (l : List Nat) (m : Nat), pr l m = some n → pr (l ++ [x]) m = some (max n (x + 1))
 | [], m, h => by
  simp only [pr, Option.some.injEq] at h
  subst h
  simp [pr, hx]
 | y :: l, m, h => by
  rw [List.cons_append, pr]
  rw [pr] at h
  split at h
  ·rename_i hy
   rw [if_pos hy]
   exact pr_snoc hx l _ h
  ·cases h
structure NI (G : List (List Int)) (v : Nat) (out : List Nat) (n : Nat) : Prop where
 l : out.length = v
 b : ∀ i, i < v → out.getD i 0 < n
 e : ∀ u w, u < v → w < v → (out.getD u 0 = out.getD w 0 ↔ u = w ∨ Mu G u w)
 p : pr out 0 = some n
theorem getD_snoc {out : List Nat} {x i : Nat} : (out ++ [x]).getD i 0 = if i = out.length then x else out.getD i 0 := by
 by_cases h : i < out.length
 ·rw [if_neg (by omega), List.getD_eq_getElem?_getD, List.getElem?_append_left h, ← List.getD_eq_getElem?_getD]
 ·by_cases h2 : i = out.length
  ·subst h2; simp [List.getD_eq_getElem?_getD]
  ·rw [if_neg h2, List.getD_eq_getElem?_getD, List.getD_eq_getElem?_getD, List.getElem?_eq_none (by simp; omega), List.getElem?_eq_none (by omega)]
theorem numR_ok {G : List (List Int)} : ∀ (d v : Nat) (out : List Nat) (n : Nat), NI G v out n → NI G (v + d) (numR G d v out n).1 (numR G d v out n).2
 | 0, v, out, n, h => h
 | d + 1, v, out, n, h => by
  rw [numR, show v + (d + 1) = v + 1 + d by omega]
  cases hf : findM (mu G v) v 0 with
  | some u =>
   obtain ⟨_, hu, hm⟩ := findM_some hf
   have hmu := mu_Mu.1 hm
   have hul : u < v := by omega
   refine numR_ok d (v + 1) _ n ⟨by simp [h.l], fun i hi => ?_, fun a c ha hc => ?_, ?_⟩
   ·rw [getD_snoc, h.l]
    split
    ·exact h.b u hul
    ·exact h.b i (by omega)
   ·have new : ∀ w, w < v → (out.getD w 0 = out.getD u 0 ↔ Mu G w v) := fun w hw => by
     rw [h.e w u hw hul]
     constructor
     ·rintro (rfl | h1)
      ·exact hmu.symm
      ·exact h1.trans hmu.symm
     ·intro h1
      by_cases e : w = u
      ·exact .inl e
      ·exact .inr (h1.trans hmu)
    rw [getD_snoc, getD_snoc, h.l]
    by_cases e1 : a = v
    ·by_cases e2 : c = v
     ·rw [if_pos e1, if_pos e2]; simp [e1, e2]
     ·rw [if_pos e1, if_neg e2]
      have := new c (by omega)
      subst e1
      constructor
      ·intro h1; exact .inr (this.1 h1.symm).symm
      ·rintro (h1 | h1)
       ·exact absurd h1.symm e2
       ·exact (this.2 h1.symm).symm
    ·by_cases e2 : c = v
     ·rw [if_neg e1, if_pos e2]
      have := new a (by omega)
      subst e2
      constructor
      ·intro h1; exact .inr (this.1 h1)
      ·rintro (h1 | h1)
       ·exact absurd h1 e1
       ·exact this.2 h1
     ·rw [if_neg e1, if_neg e2]
      exact h.e a c (by omega) (by omega)
   ·have hb := h.b u hul
    have := pr_snoc (Nat.le_of_lt hb) out 0 h.p
    rw [Nat.max_eq_left (by omega)] at this
    exact this
  | none =>
   have hno : ∀ w, w < v → ¬ Mu G v w := fun w hw hm => by
    have := findM_none hf w (Nat.zero_le _) (by omega)
    rw [mu_Mu.2 hm] at this
    cases this
   refine numR_ok d (v + 1) _ (n + 1) ⟨by simp [h.l], fun i hi => ?_, fun a c ha hc => ?_, ?_⟩
   ·rw [getD_snoc, h.l]
    split
    ·omega
    ·have := h.b i (by omega); omega
   ·rw [getD_snoc, getD_snoc, h.l]
    by_cases e1 : a = v
    ·by_cases e2 : c = v
     ·rw [if_pos e1, if_pos e2]; simp [e1, e2]
     ·rw [if_pos e1, if_neg e2]
      have := h.b c (by omega)
      subst e1
      constructor
      ·intro h1; omega
      ·rintro (h1 | h1)
       ·exact absurd h1.symm e2
       ·exact absurd h1 (hno c (by omega))
    ·by_cases e2 : c = v
     ·rw [if_neg e1, if_pos e2]
      have := h.b a (by omega)
      subst e2
      constructor
      ·intro h1; omega
      ·rintro (h1 | h1)
       ·exact absurd h1 e1
       ·exact absurd h1.symm (hno a (by omega))
     ·rw [if_neg e1, if_neg e2]
      exact h.e a c (by omega) (by omega)
   ·have := pr_snoc (Nat.le_refl n) out 0 h.p
    rw [Nat.max_eq_right (by omega)] at this
    exact this
theorem comp_ok (G : List (List Int)) : NI G G.length (comp G).1 (comp G).2 := by
 have := numR_ok (G := G) G.length 0 [] 0 ⟨rfl, fun i h => by omega, fun u w h => by omega, rfl⟩
 rw [Nat.zero_add] at this
 exact this

/-! ### The graph that is made -/
end Go.Proofs.Ythjkodbinkiifaa.Am23g
namespace Go.Proofs.Ythjkodbinkiifaa.Am23g
open Go Go.Proofs.Ythjkodbinkiifaa.Am Am23
/-! Components and what they reach. -/
def RQ (G : List (List Int)) (v u : Nat) : Prop := u = v ∨ Rch G v u
theorem RQ.trans {G : List (List Int)} {a b c : Nat} (h : RQ G a b) (k : RQ G b c) : RQ G a c := by
 rcases h with rfl | h
 ·exact k
 ·rcases k with rfl | k
  ·exact .inr h
  ·exact .inr (h.trans k)
noncomputable def Lc (G : List (List Int)) (v : Nat) : Nat := (comp G).1.getD v 0
theorem pr_le : ∀ (l : List Nat) (m n : Nat), pr l m = some n → n ≤ m + l.length
 | [], m, n, h => by simp only [pr, Option.some.injEq] at h; simp; omega
 | y :: l, m, n, h => by
  rw [pr] at h
  split at h
  ·have := pr_le l _ _ h; simp; omega
  ·cases h
theorem comp_n (G : List (List Int)) : (comp G).2 ≤ G.length := by
 have h := comp_ok G
 have := pr_le _ _ _ h.p
 rw [h.l] at this
 omega
theorem Lc_lt {G : List (List Int)} {v : Nat} (hv : v < G.length) : Lc G v < (comp G).2 := (comp_ok G).b v hv
theorem Lc_eq {G : List (List Int)} {u v : Nat} (hu : u < G.length) (hv : v < G.length) : Lc G u = Lc G v ↔ u = v ∨ Mu G u v := (comp_ok G).e u v hu hv
theorem Lc_RQ {G : List (List Int)} {u v : Nat} (hu : u < G.length) (hv : v < G.length) (h : Lc G u = Lc G v) : RQ G u v := by
 rcases (Lc_eq hu hv).1 h with rfl | h
 ·exact .inl rfl
 ·exact .inr h.1
/-- A component reaches a component. -/
def Abv (G : List (List Int)) (c d : Nat) : Prop := ∃ v u, v < G.length ∧ u < G.length ∧ Lc G v = c ∧ Lc G u = d ∧ RQ G v u
theorem Abv.trans {G : List (List Int)} {c d i : Nat} (h : Abv G c d) (k : Abv G d i) : Abv G c i := by
 obtain ⟨v, u, hv, hu, h1, h2, h3⟩ := h
 obtain ⟨w, x, hw, hx, k1, k2, k3⟩ := k
 exact ⟨v, x, hv, hx, h1, k2, (h3.trans (Lc_RQ hu hw (by rw [h2, k1]))).trans k3⟩
theorem Abv.anti {G : List (List Int)} {c d : Nat} (h : Abv G c d) (k : Abv G d c) : c = d := by
 obtain ⟨v, u, hv, hu, h1, h2, h3⟩ := h
 obtain ⟨w, x, hw, hx, k1, k2, k3⟩ := k
 have h4 : RQ G u v := ((Lc_RQ hu hw (by rw [h2, k1])).trans k3).trans (Lc_RQ hx hv (by rw [k2, h1]))
 rw [← h1, ← h2]
 refine (Lc_eq hv hu).2 ?_
 rcases h3 with rfl | h3
 ·exact .inl rfl
 ·rcases h4 with rfl | h4
  ·exact .inl rfl
  ·exact .inr ⟨h3, h4⟩
noncomputable def abv (G : List (List Int)) (c d : Nat) : Bool := @decide (Abv G c d) (Classical.propDecidable _)
theorem abv_iff {G : List (List Int)} {c d : Nat} : abv G c d = true ↔ Abv G c d := by unfold abv; exact @decide_eq_true_iff _ (Classical.propDecidable _)
end Go.Proofs.Ythjkodbinkiifaa.Am23g
namespace Go.Proofs.Ythjkodbinkiifaa.Am
open Go
/-! Lists of sets of eight words. -/
def sets (A : Nat → Nat → Bool) (n : Nat) : List Value := (List.range n).flatMap fun c => setL (A c)
theorem sets_succ (A : Nat → Nat → Bool) (n : Nat) : sets A (n + 1) = sets A n ++ setL (A n) := by
 unfold sets
 rw [List.range_succ, List.flatMap_append]
 simp
theorem sets_len (A : Nat → Nat → Bool) : ∀ n, (sets A n).length = n * 8
 | 0 => rfl
 | n + 1 => by rw [sets_succ, List.length_append, sets_len A n, setL_len]; omega
theorem sets_plain (A : Nat → Nat → Bool) : ∀ n, (sets A n).all plain0 = true
 | 0 => rfl
 | n + 1 => by rw [sets_succ, List.all_append, sets_plain A n, setL_plain]; rfl
theorem sets_congr {A B : Nat → Nat → Bool} : ∀ n, (∀ c, c < n → ∀ i, i < 512 → A c i = B c i) → sets A n = sets B n
 | 0, _ => rfl
 | n + 1, h => by rw [sets_succ, sets_succ, sets_congr n (fun c hc => h c (by omega)), setL_congr (h n (by omega))]
theorem sets_get (A : Nat → Nat → Bool) {i : Nat} : ∀ n, i < n → ((sets A n).drop (i * 8)).take 8 = setL (A i)
 | 0, h => by omega
 | n + 1, h => by
  have hl := sets_len A n
  rw [sets_succ]
  by_cases e : i = n
  ·subst e
   rw [List.drop_append_of_le_length (by omega), List.drop_of_length_le (by omega), List.nil_append, List.take_of_length_le (by rw [setL_len]; omega)]
  ·rw [List.drop_append_of_le_length (by omega), List.take_append_of_le_length (by rw [List.length_drop]; omega)]
   exact sets_get A n (by omega)
theorem sets_put (A : Nat → Nat → Bool) (T : Nat → Bool) {i : Nat} : ∀ n, i < n → putList (sets A n) (i * 8 + 0) (setL T) = sets (fun c => if c = i then T else A c) n
 | 0, h => by omega
 | n + 1, h => by
  have hl := sets_len A n
  have hT := setL_len T
  rw [sets_succ, sets_succ]
  by_cases e : i = n
  ·subst e
   unfold putList
   rw [if_pos rfl, List.take_append_of_le_length (by omega), List.take_of_length_le (by omega), List.drop_of_length_le (by rw [List.length_append, setL_len]; omega), List.append_nil]
   congr 1
   exact sets_congr i (fun c hc j _ => by rw [if_neg (by omega)])
  ·have ih := sets_put A T n (show i < n by omega)
   rw [← ih, if_neg (by omega)]
   unfold putList
   rw [List.take_append_of_le_length (by omega), List.drop_append_of_le_length (by omega)]
   simp [List.append_assoc]
theorem repCells_snoc (z : List Value) : ∀ n, repCells z (n + 1) = repCells z n ++ z
 | 0 => by simp [repCells]
 | n + 1 => by
  show z ++ repCells z (n + 1) = (z ++ repCells z n) ++ z
  rw [repCells_snoc z n, List.append_assoc]
theorem sets_no : ∀ n, sets (fun _ => noS) n = repCells (List.replicate 8 (.int .u64 0)) n
 | 0 => by simp [sets, repCells]
 | n + 1 => by rw [sets_succ, sets_no n, setL_no, repCells_snoc]

/-- A row of one's own, it may be empty. -/
def OwnS (H : AHeap) (e s : Nat) (x : Value) (n : Nat) (cs : List Value) (b : Nat) : Prop :=
 (∃ o, Own H e s x o n cs ∧ ∀ id, o = some id → b ≤ id) ∨ (n = 0 ∧ cs = [] ∧ ∃ id, x = .slice (some ⟨id, 0, some 0⟩) 0 0 ∧ b ≤ id ∧ H[id]? = some (.cells [] e 0 .row))
theorem OwnS.rd {H : AHeap} {e s n b : Nat} {x : Value} {cs : List Value} (h : OwnS H e s x n cs b) : Rd H e s x n cs := by
 rcases h with ⟨o, h, _⟩ | ⟨rfl, rfl, id, rfl, _, h⟩
 ·exact h.rd
 ·exact ⟨by simp, .inr ⟨id, 0, 0, .row, 0, [], rfl, Nat.le_refl _, Nat.le_refl _, by omega, h, by simp⟩⟩
theorem gcS {H H1 : AHeap} {e s n : Nat} {x : Value} {cs : List Value} (h : OwnS H1 e s x n cs H.length) (hp : cs.all plain0 = true) {ps : List Value} (hps : ps.all plain1 = true) :
  ∃ x' H', gc H (x :: ps) H1 = (tupled (x' :: ps), H') ∧ OwnS H' e s x' n cs H.length ∧ Stay none H H' := by
 rcases h with ⟨o, h, h2⟩ | ⟨rfl, rfl, id, rfl, h1, h⟩
 ·obtain ⟨x', o', H', g1, g2, g3, g4, _⟩ := gc_row h h2 hp hps
  exact ⟨x', H', g1, .inl ⟨o', g2, g4⟩, g3⟩
 ·refine ⟨.slice (some ⟨H.length, 0, some 0⟩) 0 0, H ++ [.cells [] e 0 .row], ?_, .inr ⟨rfl, rfl, H.length, rfl, Nat.le_refl _, append_get.1⟩, Stay.app none H _⟩
  unfold gc
  simp only [gcHeap]
  simp only [sliceIds, sliceIds_plain ps hps, noDup, List.contains_nil, Bool.not_false, Bool.and_self, if_true, keepAll, keep1]
  rw [if_neg (by omega), h]
  simp only
  rw [if_pos ⟨rfl, by simp⟩, Option.bind_some, keepAll_plain ps _ hps]
  simp
end Go.Proofs.Ythjkodbinkiifaa.Am
namespace Go.Proofs.Ythjkodbinkiifaa.Am23g
open Go Go.Proofs.Ythjkodbinkiifaa.Am Am23
theorem T46 : ElemT cfg.P 93 99 8 64 := ⟨by kernel_rfl, by kernel_rfl, by kernel_rfl, ⟨.agg #[.int .u64 0, .int .u64 0, .int .u64 0, .int .u64 0, .int .u64 0, .int .u64 0, .int .u64 0, .int .u64 0], by kernel_rfl, rfl⟩, by kernel_rfl, by omega, by omega⟩
theorem comp_get {G : List (List Int)} {v : Nat} (hv : v < G.length) : (il (nl (comp G).1))[v]? = some (.int .i64 ((Lc G v : Nat) : Int)) := by
 have hl := (comp_ok G).l
 unfold il nl Lc
 rw [List.getElem?_map, List.getElem?_map, List.getElem?_eq_getElem (by omega), List.getD_eq_getElem?_getD, List.getElem?_eq_getElem (by omega)]
 rfl
/-- One set is read; one is written. -/
theorem sets_at {H : AHeap} {x : Value} {o n : Nat} {A : Nat → Nat → Bool} (h : Own H 99 8 x (some o) n (sets A n)) {k : Nat} (hk : k < n) :
  aindexAddr cfg.P 93 x (.int .i64 (k : Nat)) = some (.pointer (some ⟨o, k * 8, some (sets A n).length⟩)) ∧ getCells H o (sets A n).length (k * 8) 8 = some (setA (A k)).toList := by
 obtain ⟨id, e, a, b⟩ := own_atS T46 h hk
 cases e
 have := b 0 8 (Nat.le_refl _)
 rw [Nat.add_zero, sets_get A n hk] at this
 exact ⟨a, this⟩
theorem sets_set {H : AHeap} {x : Value} {o n : Nat} {A : Nat → Nat → Bool} (h : Own H 99 8 x (some o) n (sets A n)) {k : Nat} (hk : k < n) (T : Nat → Bool) {prot : Nat} (hp : prot ≤ o) :
  ∃ H', setCells H prot o (sets A n).length (k * 8) (setA T).toList = some H' ∧ Own H' 99 8 x (some o) n (sets (fun c => if c = k then T else A c) n) ∧ Stay (some o) H H' := by
 obtain ⟨id, H', e, a, b, c, d, _⟩ := own_setS T46 h hk (j := 0) (vs := setL T) (by rw [setL_len]; omega) (setL_cell T) (prot := prot) (fun id e => by cases e; exact hp)
 cases e
 rw [sets_put A T n hk] at c
 exact ⟨H', b, c, d⟩

/-- What the first vertices' components reach. -/
def AbvTo (G : List (List Int)) (v c d : Nat) : Prop := ∃ w u, w < v ∧ u < G.length ∧ Lc G w = c ∧ Lc G u = d ∧ RQ G w u
end Go.Proofs.Ythjkodbinkiifaa.Am23g
namespace Go.Proofs.Ythjkodbinkiifaa.Am23
open Go Go.Proofs.Ythjkodbinkiifaa.Am
open Am23g (addE Out Mine out_start gc_mine Gr nl)
/-! Edges within components, and between them: counted. -/
def bmp (F : Nat → Nat) (c : Nat) : Nat → Nat := stF F c (F c + 1)
def eStep (lc : Nat → Nat) (s : Nat) (E : Nat → Nat) (t : Nat) : Nat → Nat := if lc s = lc t then bmp E (lc s) else E
def oStep (lc : Nat → Nat) (s : Nat) (T : Nat → List Nat) (t : Nat) : Nat → List Nat := if lc s = lc t then T else addE T (lc s) (lc t)
def eAll (lc : Nat → Nat) (R : Nat → List Nat) : Nat → Nat → (Nat → Nat) → Nat → Nat
 | 0, _, E => E
 | d + 1, s, E => eAll lc R d (s + 1) ((R s).foldl (eStep lc s) E)
def zAll (lc : Nat → Nat) : Nat → Nat → (Nat → Nat) → Nat → Nat
 | 0, _, Z => Z
 | d + 1, s, Z => zAll lc d (s + 1) (bmp Z (lc s))
def oAll (lc : Nat → Nat) (R : Nat → List Nat) : Nat → Nat → (Nat → List Nat) → Nat → List Nat
 | 0, _, T => T
 | d + 1, s, T => oAll lc R d (s + 1) ((R s).foldl (oStep lc s) T)
theorem bmp_le {F : Nat → Nat} {M c x : Nat} (h : ∀ x, F x ≤ M) : bmp F c x ≤ M + 1 := by
 unfold bmp stF
 have := h c
 have := h x
 split <;> omega
theorem eStep_le {lc : Nat → Nat} {s : Nat} {F : Nat → Nat} {M t x : Nat} (h : ∀ x, F x ≤ M) : eStep lc s F t x ≤ M + 1 := by
 unfold eStep
 split
 ·exact bmp_le h
 ·have := h x; omega
theorem eFold_le {lc : Nat → Nat} {s : Nat} : ∀ (l : List Nat) {F : Nat → Nat} {M x : Nat}, (∀ x, F x ≤ M) → l.foldl (eStep lc s) F x ≤ M + l.length
 | [], F, M, x, h => h x
 | t :: l, F, M, x, h => by
  have := eFold_le (lc := lc) (s := s) l (F := eStep lc s F t) (M := M + 1) (x := x) (fun x => eStep_le h)
  rw [List.foldl_cons, List.length_cons]; omega
theorem oStep_len {lc : Nat → Nat} {s : Nat} {T : Nat → List Nat} {M t x : Nat} (h : ∀ x, (T x).length ≤ M) : (oStep lc s T t x).length ≤ M + 1 := by
 unfold oStep addE
 have := h x
 split
 ·omega
 ·dsimp only
  split
  ·have := h (lc s); rw [List.length_append, List.length_singleton]; omega
  ·omega
theorem oFold_len {lc : Nat → Nat} {s : Nat} : ∀ (l : List Nat) {T : Nat → List Nat} {M x : Nat}, (∀ x, (T x).length ≤ M) → (l.foldl (oStep lc s) T x).length ≤ M + l.length
 | [], T, M, x, h => h x
 | t :: l, T, M, x, h => by
  have := oFold_len (lc := lc) (s := s) l (T := oStep lc s T t) (M := M + 1) (x := x) (fun x => oStep_len h)
  rw [List.foldl_cons, List.length_cons]; omega
theorem faL_bmp {F : Nat → Nat} {N c : Nat} (h : c < N) : putList (il (faL F N)) (c * 1 + 0) [.int .i64 ((F c : Int) + 1)] = il (faL (bmp F c) N) := by
 have := faL_put (F := F) (F c + 1) h
 rw [bmp, ← this]; push_cast; rfl
/-- One is added to a count. -/
theorem own_bmp {H : AHeap} {x : Value} {o n : Nat} {F : Nat → Nat} (h : Own H 3 1 x (some o) n (il (faL F n))) {c : Nat} (hc : c < n) {prot : Nat} (hp : prot ≤ o) :
  ∃ L H', aindexAddr cfg.P 22 x (.int .i64 (c : Nat)) = some (.pointer (some ⟨o, c, some L⟩)) ∧ getCells H o L c 1 = some [.int .i64 ((F c : Nat) : Int)] ∧ setCells H prot o L c [.int .i64 ((F c : Int) + 1)] = some H' ∧
   Own H' 3 1 x (some o) n (il (faL (bmp F c) n)) ∧ Stay (some o) H H' := by
 obtain ⟨i1, L1, q1, q2⟩ := own_at T22 h (faL_get hc)
 obtain ⟨id, H2, e, s1, s2, s3, s4, s5⟩ := own_setS T22 h (i := c) (j := 0) hc (vs := [.int .i64 ((F c : Int) + 1)]) (by simp) rfl (prot := prot) (fun id e => by cases e; exact hp)
 cases e
 rw [faL_bmp hc] at s3
 rw [Nat.mul_one] at s1
 rw [Nat.mul_one, Nat.add_zero] at s2
 rw [s1] at q1
 cases q1
 exact ⟨_, H2, s1, q2, s2, s3, s4⟩
theorem out_stayQ {B : Nat} {H H' : AHeap} {x : Value} {N : Nat} {r : Nat → Value} {o : Nat → Option Nat} {o3 : Nat} {T : Nat → List Nat} (h : Out B H x N r o o3 T) {q : Nat} (s : Stay (some q) H H') (h1 : q ≠ o3) (h2 : ∀ j, j < N → o j ≠ some q) : Out B H' x N r o o3 T :=
 ⟨h.x3.stay s (fun id e1 e2 => by cases e1; exact h1 (Option.some.inj e2)), fun j hj => (h.rx j hj).stay s (fun id e1 e2 => h2 j hj (by rw [e1]; exact e2.symm)), h.b3, h.bo, h.dis⟩
/-- What Growth holds while it counts. -/
structure E31 (Hb H : AHeap) (n : Nat) (xe xz xo : Value) (pe po oe oz o3 : Nat) (r : Nat → Value) (o : Nat → Option Nat) (E Z : Nat → Nat) (T : Nat → List Nat) : Prop where
 st : Stay none Hb H
 ge : H[pe]? = some (.cells [xe] 22 1 .var)
 go : H[po]? = some (.cells [xo] 86 1 .var)
 e : Own H 3 1 xe (some oe) n (il (faL E n))
 z : Own H 3 1 xz (some oz) n (il (faL Z n))
 out : Out Hb.length H xo n r o o3 T
 d1 : oe ≠ oz
 d2 : pe ≠ oe ∧ pe ≠ oz ∧ po ≠ oe ∧ po ≠ oz
 lo : Hb.length ≤ oe ∧ Hb.length ≤ oz ∧ Hb.length ≤ pe ∧ Hb.length ≤ po
 ap : ∀ q, (q = pe ∨ q = po ∨ q = oe ∨ q = oz) → q ≠ o3 ∧ ∀ j, j < n → o j ≠ some q
section
variable {Hb H : AHeap} {n : Nat} {xe xz xo : Value} {pe po oe oz o3 : Nat} {r : Nat → Value} {o : Nat → Option Nat} {E Z : Nat → Nat} {T : Nat → List Nat}
theorem cells_stay {H H' : AHeap} {p q : Nat} {c : AObj} (h : H[p]? = some c) (s : Stay (some q) H H') (hne : p ≠ q) : H'[p]? = some c := by
 rw [s.2 _ (List.getElem?_eq_some_iff.1 h).1 (fun e => hne (Option.some.inj e).symm)]; exact h
theorem E31.bE (h : E31 Hb H n xe xz xo pe po oe oz o3 r o E Z T) {c : Nat} (hc : c < n) {prot : Nat} (hp : prot ≤ Hb.length) :
  ∃ L H', aindexAddr cfg.P 22 xe (.int .i64 (c : Nat)) = some (.pointer (some ⟨oe, c, some L⟩)) ∧ getCells H oe L c 1 = some [.int .i64 ((E c : Nat) : Int)] ∧ setCells H prot oe L c [.int .i64 ((E c : Int) + 1)] = some H' ∧
   E31 Hb H' n xe xz xo pe po oe oz o3 r o (bmp E c) Z T := by
 have hlo := h.lo
 have hd2 := h.d2
 obtain ⟨L, H', a1, a2, a3, a4, a5⟩ := own_bmp h.e hc (prot := prot) (by omega)
 have ha := h.ap oe (.inr (.inr (.inl rfl)))
 refine ⟨L, H', a1, a2, a3, ⟨h.st.over a5 (fun id e => by cases e; omega), cells_stay h.ge a5 (by omega), cells_stay h.go a5 (by omega), a4, h.z.stay a5 (fun id e1 e2 => by cases e1; exact h.d1 (Option.some.inj e2)), out_stayQ h.out a5 ha.1 ha.2, h.d1, h.d2, h.lo, h.ap⟩⟩
theorem E31.bZ (h : E31 Hb H n xe xz xo pe po oe oz o3 r o E Z T) {c : Nat} (hc : c < n) {prot : Nat} (hp : prot ≤ Hb.length) :
  ∃ L H', aindexAddr cfg.P 22 xz (.int .i64 (c : Nat)) = some (.pointer (some ⟨oz, c, some L⟩)) ∧ getCells H oz L c 1 = some [.int .i64 ((Z c : Nat) : Int)] ∧ setCells H prot oz L c [.int .i64 ((Z c : Int) + 1)] = some H' ∧
   E31 Hb H' n xe xz xo pe po oe oz o3 r o E (bmp Z c) T := by
 have hlo := h.lo
 have hd2 := h.d2
 obtain ⟨L, H', a1, a2, a3, a4, a5⟩ := own_bmp h.z hc (prot := prot) (by omega)
 have ha := h.ap oz (.inr (.inr (.inr rfl)))
 refine ⟨L, H', a1, a2, a3, ⟨h.st.over a5 (fun id e => by cases e; omega), cells_stay h.ge a5 (by omega), cells_stay h.go a5 (by omega), h.e.stay a5 (fun id e1 e2 => by cases e1; exact h.d1 (Option.some.inj e2).symm), a4, out_stayQ h.out a5 ha.1 ha.2, h.d1, h.d2, h.lo, h.ap⟩⟩
theorem E31.bT (h : E31 Hb H n xe xz xo pe po oe oz o3 r o E Z T) {c : Nat} (hc : c < n) (v : Nat) (hl : (T c).length ≤ 10000000) {prot : Nat} (hp : prot ≤ Hb.length) {room : Bool} :
  ∃ a' c' H2 H3 id3 L3, aindexAddr cfg.P 86 xo (.int .i64 (c : Nat)) = some (.pointer (some ⟨id3, c, some L3⟩)) ∧ getCells H id3 L3 c 1 = some [r c] ∧
   aappend cfg.P prot room 22 22 (r c) (.slice (some ⟨H.length, 0, some (1 * 1)⟩) 1 1) (H ++ [wo [.int .i64 (v : Int)] 3]) = some (.slice a' ((T c).length + 1) c', H2) ∧
   setCells H2 prot id3 L3 c [.slice a' ((T c).length + 1) c'] = some H3 ∧ ∃ r' o', E31 Hb H3 n xe xz xo pe po oe oz o3 r' o' E Z (addE T c v) := by
 have hst := h.st.1
 obtain ⟨a', c', H2, H3, id3, L3, q1, q2, q3, q4, ⟨r', o', q5, q6⟩, q7, q8⟩ := Am23g.Out.appQ (p := prot) hp h.out hc v (room := room) hl hst
 refine ⟨a', c', H2, H3, id3, L3, q1, q2, q3, q4, r', o', ?_⟩
 have keep : ∀ q x, (q = pe ∨ q = po ∨ q = oe ∨ q = oz) → H[q]? = some x → H3[q]? = some x := fun q x hq hx => by
  obtain ⟨k1, k2⟩ := h.ap q hq
  rw [q7 q (List.getElem?_eq_some_iff.1 hx).1 k1 k2]; exact hx
 have hx3 := h.out.b3
 refine ⟨⟨by omega, fun q hq _ => ?_⟩, keep _ _ (.inl rfl) h.ge, keep _ _ (.inr (.inl rfl)) h.go, ?_, ?_, q5, h.d1, h.d2, h.lo, fun q hq => ?_⟩
 ·rw [q7 q (by omega) (by omega) (fun j hj e => by have := h.out.bo j hj q e; omega)]
  exact h.st.2 q hq (by simp)
 ·obtain ⟨e1, e2, e3, wr, e4, e5⟩ := h.e
  exact ⟨e1, e2, e3, wr, e4, keep _ _ (.inr (.inr (.inl rfl))) e5⟩
 ·obtain ⟨e1, e2, e3, wr, e4, e5⟩ := h.z
  exact ⟨e1, e2, e3, wr, e4, keep _ _ (.inr (.inr (.inr rfl))) e5⟩
 ·obtain ⟨k1, k2⟩ := h.ap q hq
  refine ⟨k1, fun j hj e => ?_⟩
  rcases q6 j q hj e with g | g
  ·exact k2 j hj g
  ·have : q < H.length := by
    rcases hq with rfl | rfl | rfl | rfl
    ·exact (List.getElem?_eq_some_iff.1 h.ge).1
    ·exact (List.getElem?_eq_some_iff.1 h.go).1
    ·exact own_lt h.e
    ·exact own_lt h.z
   omega
end
end Go.Proofs.Ythjkodbinkiifaa.Am23
set_option linter.unusedVariables false
open Go Go.Proofs.Ythjkodbinkiifaa.Am
namespace Go.Proofs.Ythjkodbinkiifaa.Am23
end Go.Proofs.Ythjkodbinkiifaa.Am23
namespace Go.Proofs.Ythjkodbinkiifaa.Am23
open Go Go.Proofs.Ythjkodbinkiifaa.Am

end Go.Proofs.Ythjkodbinkiifaa.Am23
namespace Go.Proofs.Ythjkodbinkiifaa.Am23
open Go Go.Proofs.Ythjkodbinkiifaa.Am
open Am23g (addE Out Mine out_start gc_mine Gr nl Rch sc)
/-! What the longest word is, in plain terms. -/
noncomputable def gU (k : Nat) (xs : List Int) (bs : List Bool) : List (List Int) := (List.range bs.length).map fun s => nl (inL k xs (uB k xs bs) s)
theorem gU_len (k : Nat) (xs : List Int) (bs : List Bool) : (gU k xs bs).length = bs.length := by simp [gU]
theorem gU_get {k : Nat} {xs : List Int} {bs : List Bool} {s : Nat} (h : s < bs.length) : (gU k xs bs)[s]? = some (nl (inL k xs (uB k xs bs) s)) := by
 unfold gU; rw [List.getElem?_map, List.getElem?_range h]; rfl
theorem sc_gU {k : Nat} {xs : List Int} {bs : List Bool} {s : Nat} (h : s < bs.length) : sc (gU k xs bs) s = inL k xs (uB k xs bs) s := by
 unfold sc
 rw [List.getD_eq_getElem?_getD, gU_get h, Option.getD_some]
 unfold nl
 rw [List.map_map]
 conv => rhs; rw [← List.map_id (inL k xs (uB k xs bs) s)]
 exact List.map_congr_left fun x _ => by simp
theorem sc_lt' {k : Nat} {xs : List Int} {bs : List Bool} {s t : Nat} (h : t ∈ sc (gU k xs bs) s) : s < bs.length := by
 rcases Nat.lt_or_ge s bs.length with h1 | h1
 ·exact h1
 ·unfold sc at h
  rw [List.getD_eq_getElem?_getD, List.getElem?_eq_none (by rw [gU_len]; exact h1)] at h
  simp at h
theorem inL_mem {k : Nat} {xs : List Int} {U : Nat → Bool} {s t : Nat} : t ∈ inL k xs U s ↔ U s = true ∧ U t = true ∧ ∃ c, c < k ∧ tgt k xs s c = t := by
 unfold inL
 split
 ·rename_i h
  rw [List.mem_filter, List.mem_map]
  constructor
  ·rintro ⟨⟨c, hc, e⟩, hu⟩
   exact ⟨h, hu, c, List.mem_range.1 hc, e⟩
  ·rintro ⟨_, hu, c, hc, e⟩
   exact ⟨⟨c, List.mem_range.2 hc, e⟩, hu⟩
 ·rename_i h
  constructor
  ·intro h'; cases h'
  ·rintro ⟨h', _⟩; exact absurd h' h
theorem uB_iff {k : Nat} {xs : List Int} {bs : List Bool} (hG : Good k xs bs) {s : Nat} : uB k xs bs s = true ↔ s < bs.length ∧ (∃ w, Wk k w ∧ go k xs 0 w = s) ∧ Hope k xs bs s := by
 have hn1 := hG.n1
 unfold uB
 by_cases hs : s < bs.length
 ·rw [useL_at hs, Bool.and_eq_true, bfs_met hG (by omega)]
  have hl := hopeL_len k xs bs
  rw [List.getD_eq_getElem?_getD, List.getElem?_eq_getElem (by omega), Option.getD_some, hopeL_get (by omega), @decide_eq_true_iff _ (Classical.propDecidable _)]
  constructor
  ·rintro ⟨⟨w, h1, h2, _⟩, h3⟩
   exact ⟨hs, ⟨w, h1, h2⟩, h3⟩
  ·rintro ⟨_, ⟨w, h1, h2⟩, h3⟩
   exact ⟨⟨w, h1, h2, fun h => by cases h⟩, h3⟩
 ·rw [List.getD_eq_getElem?_getD, List.getElem?_eq_none (by rw [useL_len]; omega)]
  constructor
  ·intro h; cases h
  ·rintro ⟨h, _⟩; exact absurd h hs
theorem uB_lt {k : Nat} {xs : List Int} {bs : List Bool} (hG : Good k xs bs) {s : Nat} (h : uB k xs bs s = true) : s < bs.length := ((uB_iff hG).1 h).1
/-- A way of useful states is a word. -/
theorem rch_word {k : Nat} {xs : List Int} {bs : List Bool} (hG : Good k xs bs) {s t : Nat} (h : Rch (gU k xs bs) s t) : uB k xs bs s = true ∧ uB k xs bs t = true ∧ ∃ w, Wk k w ∧ w ≠ [] ∧ go k xs s w = t := by
 induction h with
 | one e =>
  rw [sc_gU (sc_lt' e)] at e
  obtain ⟨h1, h2, c, hc, e⟩ := inL_mem.1 e
  exact ⟨h1, h2, [c], fun d hd => by rw [List.mem_singleton] at hd; omega, by simp, e⟩
 | step _ e ih =>
  rw [sc_gU (sc_lt' e)] at e
  obtain ⟨_, h2, c, hc, e⟩ := inL_mem.1 e
  obtain ⟨g1, _, w, g3, g4, g5⟩ := ih
  refine ⟨g1, h2, w ++ [c], fun d hd => ?_, by simp, by rw [go_app, g5]; exact e⟩
  rcases List.mem_append.1 hd with hd | hd
  ·exact g3 d hd
  ·rw [List.mem_singleton] at hd; omega
/-- Finite: no useful state leads back to itself. -/
theorem no_cycle {k : Nat} {xs : List Int} {bs : List Bool} (hG : Good k xs bs) (hf : (boundV k xs bs).1 = true) {s : Nat} : ¬ Rch (gU k xs bs) s s := by
 intro h
 obtain ⟨h1, _, w, h2, h3, h4⟩ := rch_word hG h
 have hbv : bestV k xs bs = none := by
  unfold boundV at hf
  cases hb : bestV k xs bs with
  | none => rfl
  | some b => rw [hb] at hf; cases hf
 have hs := uB_lt hG h1
 have := (pick_none bs.length 0 none hbv).2 s (by omega) (by omega)
 unfold okB at this
 rw [Bool.and_eq_false_iff] at this
 rcases this with h5 | h5
 ·unfold uB at h1; rw [h1] at h5; cases h5
 ·have := (bfs_met hG hs false s).2 ⟨w, h2, h4, fun _ => h3⟩
  rw [this] at h5; cases h5
noncomputable def aU (k : Nat) (xs : List Int) (bs : List Bool) (c d : Nat) : Bool := @decide (Rch (gU k xs bs) c d) (Classical.propDecidable _)
theorem aU_iff {k : Nat} {xs : List Int} {bs : List Bool} {c d : Nat} : aU k xs bs c d = true ↔ Rch (gU k xs bs) c d := by unfold aU; exact @decide_eq_true_iff _ (Classical.propDecidable _)
noncomputable def hU (k : Nat) (xs : List Int) (bs : List Bool) : Nat → Nat := hgt (aU k xs bs) bs.length bs.length
theorem hU_ok {k : Nat} {xs : List Int} {bs : List Bool} (hG : Good k xs bs) (hf : (boundV k xs bs).1 = true) : Ht (aU k xs bs) bs.length (hU k xs bs) :=
 hgt_ok (fun c d e h1 h2 => aU_iff.2 ((aU_iff.1 h1).trans (aU_iff.1 h2))) (fun c d h1 h2 => absurd ((aU_iff.1 h1).trans (aU_iff.1 h2)) (no_cycle hG hf))
/-- A way begins with an edge. -/
theorem rch_first {G : List (List Int)} {s t : Nat} (h : Rch G s t) : t ∈ sc G s ∨ ∃ e, e ∈ sc G s ∧ Rch G e t := by
 induction h with
 | one e => exact .inl e
 | step _ e ih =>
  rcases ih with h | ⟨x, h1, h2⟩
  ·exact .inr ⟨_, h, .one e⟩
  ·exact .inr ⟨x, h1, .step h2 e⟩
/-- The height over edges alone. -/
theorem hU_edges {k : Nat} {xs : List Int} {bs : List Bool} (hG : Good k xs bs) (hf : (boundV k xs bs).1 = true) : Ht (fun c d => decide (d ∈ inL k xs (uB k xs bs) c)) bs.length (hU k xs bs) := by
 have hh := hU_ok hG hf
 have ed : ∀ c d, d ∈ inL k xs (uB k xs bs) c → Rch (gU k xs bs) c d ∧ d < bs.length := fun c d h => by
  have h' := inL_mem.1 h
  have hc := uB_lt hG h'.1
  exact ⟨.one (by rw [sc_gU hc]; exact h), uB_lt hG h'.2.1⟩
 refine ⟨fun c d hc hd hne ha => hh.ge c d hc hd hne (aU_iff.2 (ed c d (of_decide_eq_true ha)).1), fun c hc => ?_, hh.lt⟩
 rcases hh.ex c hc with e | ⟨d, h1, h2, h3, h4⟩
 ·exact .inl e
 ·rcases rch_first (aU_iff.1 h3) with h5 | ⟨x, h5, h6⟩
  ·rw [sc_gU hc] at h5
   exact .inr ⟨d, h1, h2, decide_eq_true h5, h4⟩
  ·rw [sc_gU hc] at h5
   obtain ⟨h7, h8⟩ := ed c x h5
   have hxd : d ≠ x := fun e => by subst e; exact no_cycle hG hf h6
   have hxc : x ≠ c := fun e => by subst e; exact no_cycle hG hf h7
   have g1 := hh.ge x d h8 h1 hxd (aU_iff.2 h6)
   have g2 := hh.ge c x hc h8 hxc (aU_iff.2 h7)
   omega
/-- A word to an accepted state goes by useful states alone. -/
theorem word_high {k : Nat} {xs : List Int} {bs : List Bool} (hG : Good k xs bs) (hf : (boundV k xs bs).1 = true) : ∀ (w : List Nat) (s : Nat), uB k xs bs s = true → Wk k w → bs.getD (go k xs s w) false = true → w.length ≤ hU k xs bs s
 | [], _, _, _, _ => Nat.zero_le _
 | c :: w, s, hs, hw, ha => by
  have hk : c < k := hw c List.mem_cons_self
  obtain ⟨h1, ⟨u, h2, h3⟩, h4⟩ := (uB_iff hG).1 hs
  have htl := (tgt_lt hG h1 hk).2.1
  have hw' : Wk k w := fun d hd => hw d (List.mem_cons_of_mem _ hd)
  have ht : uB k xs bs (tgt k xs s c) = true := (uB_iff hG).2 ⟨htl, ⟨u ++ [c], fun d hd => by
   rcases List.mem_append.1 hd with hd | hd
   ·exact h2 d hd
   ·rw [List.mem_singleton] at hd; omega, by rw [go_app, h3]; rfl⟩, ⟨w, hw', ha⟩⟩
  have ih := word_high hG hf w _ ht hw' ha
  have hm : tgt k xs s c ∈ inL k xs (uB k xs bs) s := inL_mem.2 ⟨hs, ht, c, hk, rfl⟩
  have hr : Rch (gU k xs bs) s (tgt k xs s c) := .one (by rw [sc_gU h1]; exact hm)
  have hne : tgt k xs s c ≠ s := fun e => by rw [e] at hr; exact no_cycle hG hf hr
  have := (hU_edges hG hf).ge s _ h1 htl hne (decide_eq_true hm)
  rw [List.length_cons]
  omega
/-- There is a word of the height's length. -/
theorem high_word {k : Nat} {xs : List Int} {bs : List Bool} (hG : Good k xs bs) (hf : (boundV k xs bs).1 = true) : ∀ (m s : Nat), uB k xs bs s = true → hU k xs bs s = m → ∃ w, Wk k w ∧ w.length = m ∧ bs.getD (go k xs s w) false = true
 | 0, s, hs, hm => by
  obtain ⟨h1, ⟨u, h2, h3⟩, w, h4, h5⟩ := (uB_iff hG).1 hs
  have := word_high hG hf w s hs h4 h5
  have hw : w = [] := List.eq_nil_of_length_eq_zero (by omega)
  subst hw
  exact ⟨[], h4, rfl, h5⟩
 | m + 1, s, hs, hm => by
  rcases (hU_edges hG hf).ex s (uB_lt hG hs) with e | ⟨d, d1, d2, d3, d4⟩
  ·omega
  ·obtain ⟨_, g2, c, hc, e⟩ := inL_mem.1 (of_decide_eq_true d3)
   obtain ⟨w, w1, w2, w3⟩ := high_word hG hf m d g2 (by omega)
   refine ⟨c :: w, fun x hx => ?_, by simp [w2], ?_⟩
   ·rcases List.mem_cons.1 hx with rfl | hx
    ·exact hc
    ·exact w1 x hx
   ·show bs.getD (go k xs (tgt k xs s c) w) false = true
    rw [e]; exact w3
/-- What Longest answers. -/
noncomputable def longV (k : Int) (xs : List Int) (bs : List Bool) : Nat × Bool :=
 if chkG k xs bs = 0 ∧ (boundV k.toNat xs bs).1 = true ∧ uB k.toNat xs bs 0 = true then (hU k.toNat xs bs 0, true) else (0, false)
end Go.Proofs.Ythjkodbinkiifaa.Am23
set_option linter.unusedVariables false
open Go Go.Proofs.Ythjkodbinkiifaa.Am
namespace Go.Proofs.Ythjkodbinkiifaa.Am23
section
variable {x0a x11a x12 x17a x24a x30a x37 : Int}
variable {x0ba x0ca x11ba x11ca x17ba x17ca x24ba x24ca x25a x30ba x30ca x31a x32a : Option Addr}
variable {x0bn x0bc x0cn x0cc prot x11bn x11bc x11cn x11cc x17bn x17bc x17cn x17cc x24bn x24bc x24cn x24cc x25n x25c x26p x26o x26l x30bn x30bc x30cn x30cc x31n x31c x32n x32c x36ap x36ao x36al x36bp x36bo x36bl x36cp x36co x36cl : Nat}
variable {H H1 H2 H3 H4 H5 H6 H7 : AHeap}
variable {x18a x27 : Bool}
variable {x18ba x18bb x18bc : ByteArray}
theorem f30_F_0 (h1 : [vI x0a, vS x0ba x0bn x0bc, vS x0ca x0cn x0cc].all isCell = true) (h2 : getCells (H ++ [vo [vI x0a, vS x0ba x0bn x0bc, vS x0ca x0cn x0cc] 25]) H.length 3 0 3 = some [vI x11a, vS x11ba x11bn x11bc, vS x11ca x11cn x11cc]) (h3 : cI 36 [Value.agg #[vI x11a, vS x11ba x11bn x11bc, vS x11ca x11cn x11cc]] H.length (H ++ [vo [vI x0a, vS x0ba x0bn x0bc, vS x0ca x0cn x0cc] 25]) = some (vI x12, H ++ [vo [vI x0a, vS x0ba x0bn x0bc, vS x0ca x0cn x0cc] 25])) (h4 : (x12 != 0) = true) : callInf cfg 30 [.agg #[.int .i64 x0a, .slice x0ba x0bn x0bc, .slice x0ca x0cn x0cc]] prot H = some (Value.tuple { toList := [Value.int .i64 0, Value.bool false, Value.int .i64 x12] }, H) :=
 fn_of2 a30 [.e, .v (.agg #[vI x11a, vS x11ba x11bn x11bc, vS x11ca x11cn x11cc]), .v (vI x12), .e, .b true] (ai h1 (ai h2 (ai h3 (ai h4 (Eq.refl ((Value.tuple #[vI 0, Value.bool false, vI x12], H) : Value × AHeap)))))) (by kernel_rfl) rfl
theorem f30_F_1 (h1 : [vI x0a, vS x0ba x0bn x0bc, vS x0ca x0cn x0cc].all isCell = true) (h2 : getCells (H ++ [vo [vI x0a, vS x0ba x0bn x0bc, vS x0ca x0cn x0cc] 25]) H.length 3 0 3 = some [vI x11a, vS x11ba x11bn x11bc, vS x11ca x11cn x11cc]) (h3 : cI 36 [Value.agg #[vI x11a, vS x11ba x11bn x11bc, vS x11ca x11cn x11cc]] H.length (H ++ [vo [vI x0a, vS x0ba x0bn x0bc, vS x0ca x0cn x0cc] 25]) = some (vI x12, H ++ [vo [vI x0a, vS x0ba x0bn x0bc, vS x0ca x0cn x0cc] 25])) (h4 : (x12 != 0) = false) (h5 : getCells (H ++ [vo [vI x0a, vS x0ba x0bn x0bc, vS x0ca x0cn x0cc] 25]) H.length 3 0 3 = some [vI x17a, vS x17ba x17bn x17bc, vS x17ca x17cn x17cc]) (h6 : cI 37 [Value.agg #[vI x17a, vS x17ba x17bn x17bc, vS x17ca x17cn x17cc]] H.length (H ++ [vo [vI x0a, vS x0ba x0bn x0bc, vS x0ca x0cn x0cc] 25]) = some (Value.tuple #[Value.bool x18a, Value.agg #[Value.string x18ba, Value.string x18bb, Value.string x18bc]], H ++ [vo [vI x0a, vS x0ba x0bn x0bc, vS x0ca x0cn x0cc] 25])) (h7 : 3 = 3) (h8 : setCells (H ++ [vo [vI x0a, vS x0ba x0bn x0bc, vS x0ca x0cn x0cc] 25] ++ [vo [vE, vE, vE] 29]) H.length (List.length (H ++ [vo [vI x0a, vS x0ba x0bn x0bc, vS x0ca x0cn x0cc] 25])) 3 0 [Value.string x18ba, Value.string x18bb, Value.string x18bc] = some H1) (h9 : (!x18a) = false) (h10 : getCells H1 H.length 3 0 3 = some [vI x24a, vS x24ba x24bn x24bc, vS x24ca x24cn x24cc]) (h11 : cI 53 [Value.agg #[vI x24a, vS x24ba x24bn x24bc, vS x24ca x24cn x24cc]] H.length H1 = some (vS x25a x25n x25c, H2)) (h12 : aX 23 (vS x25a x25n x25c) (vI 0) = some (vP x26p x26o x26l)) (h13 : getCells H2 x26p x26l x26o 1 = some [Value.bool x27]) (h14 : (!x27) = false) (h15 : getCells H2 H.length 3 0 3 = some [vI x30a, vS x30ba x30bn x30bc, vS x30ca x30cn x30cc]) (h16 : cI 54 [Value.agg #[vI x30a, vS x30ba x30bn x30bc, vS x30ca x30cn x30cc]] H.length H2 = some (vS x31a x31n x31c, H3)) (h17 : 1 = 1) (h18 : setCells (H3 ++ [vo [vS none 0 0] 86]) H.length H3.length 1 0 [vS x31a x31n x31c] = some H4) (h19 : getCells H4 H3.length 1 0 1 = some [vS x32a x32n x32c]) (h20 : 0 ≤ (↑x32n : Int)) (h21 : (↑x32n : Int) = (↑x32n : Int)) (h22 : (↑x32n : Int) ≤ 9223372036854775807) (h23 : (↑8 : Int) * (↑x32n : Int) ≤ 2 ^ 48) (h24 : 1 = 1) (h25 : setCells (H4 ++ [AObj.cells (repCells [vI 0] (↑x32n : Int).toNat) 3 (repCells [vI 0] (↑x32n : Int).toNat).length OMode.row] ++ [vo [vS none 0 0] 22]) H.length (List.length (H4 ++ [AObj.cells (repCells [vI 0] (↑x32n : Int).toNat) 3 (repCells [vI 0] (↑x32n : Int).toNat).length OMode.row])) 1 0 [vS (some ⟨H4.length, 0, some ((↑x32n : Int).toNat * 1)⟩) (↑x32n : Int).toNat (↑x32n : Int).toNat] = some H5) (h26 : [Value.func (Fn.func 55) #[] #[Value.pointer (some ⟨List.length (H4 ++ [AObj.cells (repCells [vI 0] (↑x32n : Int).toNat) 3 (repCells [vI 0] (↑x32n : Int).toNat).length OMode.row]), 0, some 1⟩), vP H3.length 0 1, vP H5.length 0 1]].length = 1) (h27 : setCells (H5 ++ [vo [Value.nilFunc] 82]) H.length H5.length 1 0 [Value.func (Fn.func 55) #[] #[Value.pointer (some ⟨List.length (H4 ++ [AObj.cells (repCells [vI 0] (↑x32n : Int).toNat) 3 (repCells [vI 0] (↑x32n : Int).toNat).length OMode.row]), 0, some 1⟩), vP H3.length 0 1, vP H5.length 0 1]] = some H6) (h28 : getCells H6 H5.length 1 0 1 = some [Value.func (Fn.func 55) #[] #[vP x36ap x36ao x36al, vP x36bp x36bo x36bl, vP x36cp x36co x36cl]]) (h29 : cI 55 [vI 0, vP x36ap x36ao x36al, vP x36bp x36bo x36bl, vP x36cp x36co x36cl] H.length H6 = some (vI x37, H7)) (h30 : Fit .i64 (x37 - 1)) : callInf cfg 30 [.agg #[.int .i64 x0a, .slice x0ba x0bn x0bc, .slice x0ca x0cn x0cc]] prot H = some (Value.tuple { toList := [Value.int .i64 (x37 - 1), Value.bool true, Value.int .i64 0] }, H) :=
 fn_of2 a30 [.e, .v (.agg #[vI x11a, vS x11ba x11bn x11bc, vS x11ca x11cn x11cc]), .v (vI x12), .e, .b false, .v (.agg #[vI x17a, vS x17ba x17bn x17bc, vS x17ca x17cn x17cc]), .v (.tuple #[.bool x18a, .agg #[.string x18ba, .string x18bb, .string x18bc]]), .e, .h H1, .e, .b false, .v (.agg #[vI x24a, vS x24ba x24bn x24bc, vS x24ca x24cn x24cc]), .b false, .r (vS x25a x25n x25c) H2, .b false, .v (vP x26p x26o x26l), .b false, .v (.bool x27), .b false, .e, .b false, .b false, .v (.agg #[vI x30a, vS x30ba x30bn x30bc, vS x30ca x30cn x30cc]), .r (vS x31a x31n x31c) H3, .e, .h H4, .v (vS x32a x32n x32c), .e, .e, .e, .h H5, .e, .h H6, .v (.func (.func 55) #[] #[vP x36ap x36ao x36al, vP x36bp x36bo x36bl, vP x36cp x36co x36cl]), .r (vI x37) H7, .e] (ai h1 (ai h2 (ai h3 (ai h4 (ai h5 (ai h6 (ai h7 (ai h8 (ai h9 (ai h10 (ai h9 (ai h11 (ai h9 (ai h12 (ai h9 (ai h13 (ai h9 (ai h9 (ai h14 (ai h15 (ai h16 (ai h17 (ai h18 (ai h19 (ai h20 (ai h21 (ai h22 (ai h23 (ai h24 (ai h25 (ai h26 (ai h27 (ai h28 (ai h29 (ai h30 (Eq.refl ((Value.tuple #[vI (x37 - 1), Value.bool true, vI 0], H) : Value × AHeap))))))))))))))))))))))))))))))))))))) (by kernel_rfl) rfl
theorem f30_F_2 (h1 : [vI x0a, vS x0ba x0bn x0bc, vS x0ca x0cn x0cc].all isCell = true) (h2 : getCells (H ++ [vo [vI x0a, vS x0ba x0bn x0bc, vS x0ca x0cn x0cc] 25]) H.length 3 0 3 = some [vI x11a, vS x11ba x11bn x11bc, vS x11ca x11cn x11cc]) (h3 : cI 36 [Value.agg #[vI x11a, vS x11ba x11bn x11bc, vS x11ca x11cn x11cc]] H.length (H ++ [vo [vI x0a, vS x0ba x0bn x0bc, vS x0ca x0cn x0cc] 25]) = some (vI x12, H ++ [vo [vI x0a, vS x0ba x0bn x0bc, vS x0ca x0cn x0cc] 25])) (h4 : (x12 != 0) = false) (h5 : getCells (H ++ [vo [vI x0a, vS x0ba x0bn x0bc, vS x0ca x0cn x0cc] 25]) H.length 3 0 3 = some [vI x17a, vS x17ba x17bn x17bc, vS x17ca x17cn x17cc]) (h6 : cI 37 [Value.agg #[vI x17a, vS x17ba x17bn x17bc, vS x17ca x17cn x17cc]] H.length (H ++ [vo [vI x0a, vS x0ba x0bn x0bc, vS x0ca x0cn x0cc] 25]) = some (Value.tuple #[Value.bool x18a, Value.agg #[Value.string x18ba, Value.string x18bb, Value.string x18bc]], H ++ [vo [vI x0a, vS x0ba x0bn x0bc, vS x0ca x0cn x0cc] 25])) (h7 : 3 = 3) (h8 : setCells (H ++ [vo [vI x0a, vS x0ba x0bn x0bc, vS x0ca x0cn x0cc] 25] ++ [vo [vE, vE, vE] 29]) H.length (List.length (H ++ [vo [vI x0a, vS x0ba x0bn x0bc, vS x0ca x0cn x0cc] 25])) 3 0 [Value.string x18ba, Value.string x18bb, Value.string x18bc] = some H1) (h9 : (!x18a) = false) (h10 : getCells H1 H.length 3 0 3 = some [vI x24a, vS x24ba x24bn x24bc, vS x24ca x24cn x24cc]) (h11 : cI 53 [Value.agg #[vI x24a, vS x24ba x24bn x24bc, vS x24ca x24cn x24cc]] H.length H1 = some (vS x25a x25n x25c, H2)) (h12 : aX 23 (vS x25a x25n x25c) (vI 0) = some (vP x26p x26o x26l)) (h13 : getCells H2 x26p x26l x26o 1 = some [Value.bool x27]) (h14 : (!x27) = true) : callInf cfg 30 [.agg #[.int .i64 x0a, .slice x0ba x0bn x0bc, .slice x0ca x0cn x0cc]] prot H = some (Value.tuple { toList := [Value.int .i64 0, Value.bool false, Value.int .i64 0] }, H) :=
 fn_of2 a30 [.e, .v (.agg #[vI x11a, vS x11ba x11bn x11bc, vS x11ca x11cn x11cc]), .v (vI x12), .e, .b false, .v (.agg #[vI x17a, vS x17ba x17bn x17bc, vS x17ca x17cn x17cc]), .v (.tuple #[.bool x18a, .agg #[.string x18ba, .string x18bb, .string x18bc]]), .e, .h H1, .e, .b false, .v (.agg #[vI x24a, vS x24ba x24bn x24bc, vS x24ca x24cn x24cc]), .b false, .r (vS x25a x25n x25c) H2, .b false, .v (vP x26p x26o x26l), .b false, .v (.bool x27), .b false, .e, .b false, .b true] (ai h1 (ai h2 (ai h3 (ai h4 (ai h5 (ai h6 (ai h7 (ai h8 (ai h9 (ai h10 (ai h9 (ai h11 (ai h9 (ai h12 (ai h9 (ai h13 (ai h9 (ai h9 (ai h14 (Eq.refl ((Value.tuple #[vI 0, Value.bool false, vI 0], H) : Value × AHeap))))))))))))))))))))) (by kernel_rfl) rfl
theorem f30_F_3 (h1 : [vI x0a, vS x0ba x0bn x0bc, vS x0ca x0cn x0cc].all isCell = true) (h2 : getCells (H ++ [vo [vI x0a, vS x0ba x0bn x0bc, vS x0ca x0cn x0cc] 25]) H.length 3 0 3 = some [vI x11a, vS x11ba x11bn x11bc, vS x11ca x11cn x11cc]) (h3 : cI 36 [Value.agg #[vI x11a, vS x11ba x11bn x11bc, vS x11ca x11cn x11cc]] H.length (H ++ [vo [vI x0a, vS x0ba x0bn x0bc, vS x0ca x0cn x0cc] 25]) = some (vI x12, H ++ [vo [vI x0a, vS x0ba x0bn x0bc, vS x0ca x0cn x0cc] 25])) (h4 : (x12 != 0) = false) (h5 : getCells (H ++ [vo [vI x0a, vS x0ba x0bn x0bc, vS x0ca x0cn x0cc] 25]) H.length 3 0 3 = some [vI x17a, vS x17ba x17bn x17bc, vS x17ca x17cn x17cc]) (h6 : cI 37 [Value.agg #[vI x17a, vS x17ba x17bn x17bc, vS x17ca x17cn x17cc]] H.length (H ++ [vo [vI x0a, vS x0ba x0bn x0bc, vS x0ca x0cn x0cc] 25]) = some (Value.tuple #[Value.bool x18a, Value.agg #[Value.string x18ba, Value.string x18bb, Value.string x18bc]], H ++ [vo [vI x0a, vS x0ba x0bn x0bc, vS x0ca x0cn x0cc] 25])) (h7 : 3 = 3) (h8 : setCells (H ++ [vo [vI x0a, vS x0ba x0bn x0bc, vS x0ca x0cn x0cc] 25] ++ [vo [vE, vE, vE] 29]) H.length (List.length (H ++ [vo [vI x0a, vS x0ba x0bn x0bc, vS x0ca x0cn x0cc] 25])) 3 0 [Value.string x18ba, Value.string x18bb, Value.string x18bc] = some H1) (h9 : (!x18a) = true) : callInf cfg 30 [.agg #[.int .i64 x0a, .slice x0ba x0bn x0bc, .slice x0ca x0cn x0cc]] prot H = some (Value.tuple { toList := [Value.int .i64 0, Value.bool false, Value.int .i64 0] }, H) :=
 fn_of2 a30 [.e, .v (.agg #[vI x11a, vS x11ba x11bn x11bc, vS x11ca x11cn x11cc]), .v (vI x12), .e, .b false, .v (.agg #[vI x17a, vS x17ba x17bn x17bc, vS x17ca x17cn x17cc]), .v (.tuple #[.bool x18a, .agg #[.string x18ba, .string x18bb, .string x18bc]]), .e, .h H1, .e, .b true, .b true, .b true, .b true, .b true, .b true, .b true] (ai h1 (ai h2 (ai h3 (ai h4 (ai h5 (ai h6 (ai h7 (ai h8 (ai h9 (ai h9 (ai h9 (ai h9 (ai h9 (ai h9 (ai (Eq.refl true) (Eq.refl ((Value.tuple #[vI 0, Value.bool false, vI 0], H) : Value × AHeap))))))))))))))))) (by kernel_rfl) rfl
end
end Go.Proofs.Ythjkodbinkiifaa.Am23
namespace Go.Proofs.Ythjkodbinkiifaa.Am23
open Go Go.Proofs.Ythjkodbinkiifaa.Am
open Am23g (addE Out Mine out_start gc_mine Gr nl Rch sc)
/-! Longest. -/
theorem mine_rows {B : Nat} {H : AHeap} {x : Value} {N : Nat} {T : Nat → List Nat} (h : Mine B H x N T) {od : Nat} (hB : H.length ≤ od) : RowsA H x N T od := by
 obtain ⟨cs, h1, h2⟩ := h.rd
 refine ⟨cs, h1, fun j hj => ?_⟩
 obtain ⟨r, a, b⟩ := h2 j hj
 refine ⟨r, a, b, fun id off L m c e e2 => ?_⟩
 have := b.low id off L m c e
 have := Option.some.inj e2
 omega
theorem inL_in {k : Nat} {xs : List Int} {bs : List Bool} (hG : Good k xs bs) (hf : (boundV k xs bs).1 = true) {c d : Nat} (h : d ∈ inL k xs (uB k xs bs) c) : d < bs.length ∧ d ≠ c := by
 have h' := inL_mem.1 h
 have hc := uB_lt hG h'.1
 refine ⟨uB_lt hG h'.2.1, fun e => ?_⟩
 subst e
 exact no_cycle hG hf (.one (by rw [sc_gU hc]; exact h))
theorem c30 {k : Int} {xs : List Int} {bs : List Bool} {vN vA : Value} (prot : Nat) (H : AHeap) (hA : IsA H xs bs vN vA) :
  callInf cfg 30 [av k vN vA] prot H = some (.tuple #[.int .i64 (longV k xs bs).1, .bool (longV k xs bs).2, .int .i64 (chkG k xs bs)], H) := by
 have hck := c36 (k := k) H.length (H ++ [bx k vN vA]) (hA.stay (Stay.app none H _))
 have hg : (H ++ [bx k vN vA])[H.length]? = some (bx k vN vA) := append_get.1
 have hA0 := hA
 obtain ⟨aN, cN, hNe⟩ := hA.n.len
 obtain ⟨aA, cA, hAe⟩ := hA.a.len
 subst hNe; subst hAe
 obtain ⟨_, _, _, g3⟩ := fld3 hg
 unfold longV
 by_cases h0 : chkG k xs bs = 0
 ·obtain ⟨k, rfl, hG⟩ := good_of h0
  rw [Int.toNat_natCast]
  rw [h0] at hck ⊢
  have hb1 := hG.n1
  have hb5 := hG.n5
  obtain ⟨HX, hHX⟩ : ∃ HX, HX = H ++ [bx (k : Int) (.slice aN xs.length cN) (.slice aA bs.length cA)] := ⟨_, rfl⟩
  have lX : HX.length = H.length + 1 := by rw [hHX]; simp
  have sX : Stay none H HX := by rw [hHX]; exact Stay.app none H _
  have hgX : HX[H.length]? = some (bx (k : Int) (.slice aN xs.length cN) (.slice aA bs.length cA)) := by rw [hHX]; exact hg
  have h37 := c37 hG H.length HX (hA.stay sX)
  obtain ⟨HP, hHP⟩ : ∃ HP, HP = HX ++ [vo [.string { data := { toList := [] } }, .string { data := { toList := [] } }, .string { data := { toList := [] } }] 29] := ⟨_, rfl⟩
  have lP : HP.length = H.length + 2 := by rw [hHP]; simp; omega
  have gP : HP[HX.length]? = some (.cells [.string { data := { toList := [] } }, .string { data := { toList := [] } }, .string { data := { toList := [] } }] 29 3 .var) := by rw [hHP]; exact append_get.1
  obtain ⟨H1, hH1⟩ : ∃ H1, H1 = HP.set HX.length (.cells [.string (boundV k xs bs).2.1, .string (boundV k xs bs).2.2.1, .string (boundV k xs bs).2.2.2] 29 3 .var) := ⟨_, rfl⟩
  have s1 : Stay (some HX.length) HP H1 := by rw [hH1]; exact set_stay
  have e1 : setCells HP H.length HX.length 3 0 [.string (boundV k xs bs).2.1, .string (boundV k xs bs).2.2.1, .string (boundV k xs bs).2.2.2] = some H1 := by rw [hH1]; exact arr_put gP rfl (by omega) rfl rfl
  have sP : Stay none HX HP := by rw [hHP]; exact Stay.app none HX _
  have sX1 : Stay none HX H1 := sP.over s1 (fun id e => by have := Option.some.inj e; omega)
  have l1 : H1.length = H.length + 2 := by rw [hH1, List.length_set, lP]
  have st1 := sX.trans sX1
  have hg1 : H1[H.length]? = some (bx (k : Int) (.slice aN xs.length cN) (.slice aA bs.length cA)) := by rw [sX1.2 _ (by omega) (by simp)]; exact hgX
  obtain ⟨_, _, _, g31⟩ := fld3 hg1
  by_cases hf : (boundV k xs bs).1 = true
  ·obtain ⟨pu, cu', H2, u1, u2, u3⟩ := c53 hG H.length H1 (hA.stay st1)
   obtain ⟨_, _, v1, v2⟩ := own_at T23 u2 (use_get hb1)
   have st2 := st1.trans u3
   have hg2 : H2[H.length]? = some (bx (k : Int) (.slice aN xs.length cN) (.slice aA bs.length cA)) := by rw [u3.2 _ (by omega) (by simp)]; exact hg1
   obtain ⟨_, _, _, g32⟩ := fld3 hg2
   by_cases hu : uB k xs bs 0 = true
   ·rw [if_pos ⟨rfl, hf, hu⟩]
    rw [hu] at v2
    obtain ⟨xg, H3, i1, i2, i3⟩ := c54 hG H.length H2 (hA.stay st2)
    have st3 := st2.trans i3
    have l3 := st3.1
    obtain ⟨ds, hds, _⟩ := i2.rd
    obtain ⟨ax, cx, hxe⟩ := hds.len
    subst hxe
    obtain ⟨HA, hHA⟩ : ∃ HA, HA = H3 ++ [vo [.slice none 0 0] 86] := ⟨_, rfl⟩
    have sA : Stay none H3 HA := by rw [hHA]; exact Stay.app none H3 _
    have lA : HA.length = H3.length + 1 := by rw [hHA]; simp
    have gA : HA[H3.length]? = some (.cells [.slice none 0 0] 86 1 .var) := by rw [hHA]; exact append_get.1
    obtain ⟨H4, hH4⟩ : ∃ H4, H4 = HA.set H3.length (.cells [.slice ax bs.length cx] 86 1 .var) := ⟨_, rfl⟩
    have s4 : Stay (some H3.length) HA H4 := by rw [hH4]; exact set_stay
    have l4 : H4.length = H3.length + 1 := by rw [hH4, List.length_set, lA]
    have e4 : setCells HA H.length H3.length 1 0 [.slice ax bs.length cx] = some H4 := by rw [hH4]; exact arr_put gA rfl l3 rfl rfl
    have g4 : H4[H3.length]? = some (.cells [.slice ax bs.length cx] 86 1 .var) := by rw [hH4, List.getElem?_set_self (by omega)]
    have sA4 : Stay none H3 H4 := sA.over s4 (fun id e => by have := Option.some.inj e; omega)
    obtain ⟨HB, hHB⟩ : ∃ HB, HB = H4 ++ [AObj.cells (repCells [.int .i64 0] bs.length) 3 (repCells [.int .i64 0] bs.length).length .row] := ⟨_, rfl⟩
    have sB : Stay none H4 HB := by rw [hHB]; exact Stay.app none H4 _
    have lB : HB.length = H3.length + 2 := by rw [hHB, List.length_append, List.length_singleton]; omega
    obtain ⟨HC, hHC⟩ : ∃ HC, HC = HB ++ [vo [.slice none 0 0] 22] := ⟨_, rfl⟩
    have sC : Stay none HB HC := by rw [hHC]; exact Stay.app none HB _
    have lC : HC.length = H3.length + 3 := by rw [hHC, List.length_append, List.length_singleton]; omega
    have gC : HC[HB.length]? = some (.cells [.slice none 0 0] 22 1 .var) := by rw [hHC]; exact append_get.1
    obtain ⟨xd, hxd⟩ : ∃ xd : Value, xd = .slice (some ⟨H4.length, 0, some (((bs.length : Nat) : Int).toNat * 1)⟩) ((bs.length : Nat) : Int).toNat ((bs.length : Nat) : Int).toNat := ⟨_, rfl⟩
    obtain ⟨H5, hH5⟩ : ∃ H5, H5 = HC.set HB.length (.cells [xd] 22 1 .var) := ⟨_, rfl⟩
    have s5 : Stay (some HB.length) HC H5 := by rw [hH5]; exact set_stay
    have l5 : H5.length = H3.length + 3 := by rw [hH5, List.length_set, lC]
    have e5 : setCells HC H.length HB.length 1 0 [xd] = some H5 := by rw [hH5]; exact arr_put gC rfl (by omega) rfl (by rw [hxd]; rfl)
    obtain ⟨HD, hHD⟩ : ∃ HD, HD = H5 ++ [vo [.nilFunc] 82] := ⟨_, rfl⟩
    have sD : Stay none H5 HD := by rw [hHD]; exact Stay.app none H5 _
    have lD : HD.length = H3.length + 4 := by rw [hHD, List.length_append, List.length_singleton]; omega
    have gD : HD[H5.length]? = some (.cells [.nilFunc] 82 1 .var) := by rw [hHD]; exact append_get.1
    obtain ⟨H6, hH6⟩ : ∃ H6, H6 = HD.set H5.length (.cells [fLo HB.length H3.length H5.length] 82 1 .var) := ⟨_, rfl⟩
    have s6 : Stay (some H5.length) HD H6 := by rw [hH6]; exact set_stay
    have e6 : setCells HD H.length H5.length 1 0 [fLo HB.length H3.length H5.length] = some H6 := by rw [hH6]; exact arr_put gD rfl (by omega) rfl rfl
    have k2 : H6[H3.length]? = some (.cells [.slice ax bs.length cx] 86 1 .var) := by
     rw [s6.2 _ (by omega) (fun e => by have := Option.some.inj e; omega), sD.2 _ (by omega) (by simp), s5.2 _ (by omega) (fun e => by have := Option.some.inj e; omega), sC.2 _ (by omega) (by simp), sB.2 _ (by omega) (by simp)]; exact g4
    have k1 : H6[HB.length]? = some (.cells [xd] 22 1 .var) := by
     rw [s6.2 _ (by omega) (fun e => by have := Option.some.inj e; omega), sD.2 _ (by omega) (by simp), hH5, List.getElem?_set_self (by omega)]
    have k3 : H6[H5.length]? = some (.cells [fLo HB.length H3.length H5.length] 82 1 .var) := by rw [hH6, List.getElem?_set_self (by omega)]
    have m : Own HB 3 1 xd (some H4.length) bs.length (il (faL (fun _ => 0) bs.length)) := by
     have hm := own_make (e := 3) (fun n => .int .i64 ((n : Nat) : Int)) hb1 H4 (.int .i64 0) rfl
     rw [hxd, hHB, Int.toNat_natCast]
     have : il (faL (fun _ => 0) bs.length) = (List.replicate bs.length 0).map (fun n => Value.int .i64 ((n : Nat) : Int)) := by
      unfold il faL nl
      rw [List.map_const', List.length_range, List.map_replicate, List.map_replicate, List.map_replicate]
     rw [this]
     exact hm
    have m6 : Own H6 3 1 xd (some H4.length) bs.length (il (faL (fun _ => 0) bs.length)) :=
     (((m.stay sC (fun _ _ h => by cases h)).stay s5 (fun id e1 e2 => by cases e1; have := Option.some.inj e2; omega)).stay sD (fun _ _ h => by cases h)).stay s6 (fun id e1 e2 => by cases e1; have := Option.some.inj e2; omega)
    have sAll : Stay none H3 H6 := (((((sA4.trans sB).trans sC).over s5 (fun id e => by have := Option.some.inj e; omega)).trans sD).over s6 (fun id e => by have := Option.some.inj e; omega))
    have r6 : RowsA H6 (.slice ax bs.length cx) bs.length (inL k xs (uB k xs bs)) H4.length := (mine_rows i2 (by omega)).stay sAll
    have hw : WM (fLo HB.length H3.length H5.length) H.length H6 bs.length (inL k xs (uB k xs bs)) (fun c => hU k xs bs c + 1) xd (.slice ax bs.length cx) H4.length HB.length H3.length H5.length (fun _ => 0) :=
     ⟨k1, k2, k3, m6, r6, by omega, by omega, by omega, by omega, fun _ _ => .inl rfl⟩
    obtain ⟨D', H7, c1, c2, c3⟩ := c55 hb5 (hU_edges hG hf) (fun c d h => inL_in hG hf h) (fun c => by have := inL_len k xs (uB k xs bs) c; have := hG.k8; omega) (prot := H.length) hw.lo (hU k xs bs 0 + 1) 0 H6 _ hb1 (by omega) hw
    have hlt := (hU_edges hG hf).lt 0 hb1
    have hz : (((hU k xs bs 0 + 1 : Nat) : Int) - 1) = ((hU k xs bs 0 : Nat) : Int) := by omega
    have q1 := one_get g4
    have q2 := one_get k3
    subst hHD; subst hHC; subst hHB; subst hHA; subst hHP; subst hHX
    have := f30_F_1 (prot := prot) all3 g3 hck rfl g3 h37 rfl e1 (by simp [hf]) g31 u1 v1 v2 rfl g32 i1 rfl e4 q1 (by omega) rfl (by omega) (by omega) rfl (by rw [hxd] at e5; exact e5) rfl e6 q2 c1 (fit64 (by omega) (by omega))
    rw [hz] at this
    exact this
   ·have hu' : uB k xs bs 0 = false := by simpa using hu
    rw [if_neg (fun h => hu h.2.2)]
    rw [hu'] at v2
    subst hHP; subst hHX
    exact f30_F_2 all3 g3 hck rfl g3 h37 rfl e1 (by simp [hf]) g31 u1 v1 v2 rfl
  ·rw [if_neg (fun h => hf h.2.1)]
   subst hHP; subst hHX
   exact f30_F_3 all3 g3 hck rfl g3 h37 rfl e1 (by simpa using hf)
 ·rw [if_neg (fun h => h0 h.1)]
  exact f30_F_0 all3 g3 hck (by simpa using h0)
end Go.Proofs.Ythjkodbinkiifaa.Am23
set_option linter.unusedVariables false
open Go Go.Proofs.Ythjkodbinkiifaa.Am
namespace Go.Proofs.Ythjkodbinkiifaa.Am23
section
variable {x0a x20a x21 x25a x29b x29c z8 z8_2 z2_2 x8 x40 x41 x48 x50 z40 z41 x13 x57 x58 x61 x65 x69 x75 x77 x84 x89 x95 x101 x102 x108 x112 x2 x118 x119 x125 : Int}
variable {x0ba x0ca x20ba x20ca x25ba x25ca x26a x29aa x34a x36a z11a x6a x7a x11a x56a z6a z7a x71a x80a x85a x91a x97a x105a : Option Addr}
variable {x0bn x0bc x0cn x0cc prot x20bn x20bc x20cn x20cc x25bn x25bc x25cn x25cc x26n x26c x29an x29ac x34n x34c x36n x36c z10p z10o z10l z11n z11c z12p z12o z12l z10p_2 z10o_2 z10l_2 z12p_2 z12o_2 z12l_2 x6n x6c x7n x7c x10p x10o x10l x11n x11c x12p x12o x12l x47p x47o x47l x49p x49o x49l x52p x52o x52l x55p x55o x55l x56n x56c z6n z6c z7n z7c x60p x60o x60l x64p x64o x64l x68p x68o x68l x71n x71c x74p x74o x74l x76p x76o x76l x79p x79o x79l x80n x80c x83p x83o x83l x85n x85c x88p x88o x88l x90p x90o x90l x91n x91c x94p x94o x94l x97n x97c x98p x98o x98l x105n x105c x107p x107o x107l x111p x111o x111l x18p x18o x18l x123ap x123ao x123al x123bp x123bo x123bl x123cp x123co x123cl x123dp x123do x123dl : Nat}
variable {H H1 H2 H3 H4 H5 H6 H7 H8 H9 H10 H11 H0 : AHeap}
variable {z2 z3 z4 z10 z12 : Value}
theorem f31_F_0 (h1 : [vI x0a, vS x0ba x0bn x0bc, vS x0ca x0cn x0cc].all isCell = true) (h2 : getCells (H ++ [vo [vI x0a, vS x0ba x0bn x0bc, vS x0ca x0cn x0cc] 25]) H.length 3 0 3 = some [vI x20a, vS x20ba x20bn x20bc, vS x20ca x20cn x20cc]) (h3 : cI 36 [Value.agg #[vI x20a, vS x20ba x20bn x20bc, vS x20ca x20cn x20cc]] H.length (H ++ [vo [vI x0a, vS x0ba x0bn x0bc, vS x0ca x0cn x0cc] 25]) = some (vI x21, H ++ [vo [vI x0a, vS x0ba x0bn x0bc, vS x0ca x0cn x0cc] 25])) (h4 : (x21 != 0) = true) : callInf cfg 31 [.agg #[.int .i64 x0a, .slice x0ba x0bn x0bc, .slice x0ca x0cn x0cc]] prot H = some (Value.tuple { toList := [Value.int .i64 0, Value.bool false, Value.int .i64 x21] }, H) :=
 fn_of2 a31 [.e, .v (.agg #[vI x20a, vS x20ba x20bn x20bc, vS x20ca x20cn x20cc]), .v (vI x21), .e, .b true] (ai h1 (ai h2 (ai h3 (ai h4 (Eq.refl ((Value.tuple #[vI 0, Value.bool false, vI x21], H) : Value × AHeap)))))) (by kernel_rfl) rfl
theorem f31_F_1 (h1 : [vI x0a, vS x0ba x0bn x0bc, vS x0ca x0cn x0cc].all isCell = true) (h2 : getCells (H ++ [vo [vI x0a, vS x0ba x0bn x0bc, vS x0ca x0cn x0cc] 25]) H.length 3 0 3 = some [vI x20a, vS x20ba x20bn x20bc, vS x20ca x20cn x20cc]) (h3 : cI 36 [Value.agg #[vI x20a, vS x20ba x20bn x20bc, vS x20ca x20cn x20cc]] H.length (H ++ [vo [vI x0a, vS x0ba x0bn x0bc, vS x0ca x0cn x0cc] 25]) = some (vI x21, H ++ [vo [vI x0a, vS x0ba x0bn x0bc, vS x0ca x0cn x0cc] 25])) (h4 : (x21 != 0) = false) (h5 : getCells (H ++ [vo [vI x0a, vS x0ba x0bn x0bc, vS x0ca x0cn x0cc] 25]) H.length 3 0 3 = some [vI x25a, vS x25ba x25bn x25bc, vS x25ca x25cn x25cc]) (h6 : cI 54 [Value.agg #[vI x25a, vS x25ba x25bn x25bc, vS x25ca x25cn x25cc]] H.length (H ++ [vo [vI x0a, vS x0ba x0bn x0bc, vS x0ca x0cn x0cc] 25]) = some (vS x26a x26n x26c, H1)) (h7 : cI 56 [vS x26a x26n x26c] H.length H1 = some (Value.tuple #[vS x29aa x29an x29ac, vI x29b, vI x29c], H2)) (h8 : placeA (H2.length + 0) (H2 ++ [AObj.hole, AObj.hole, AObj.hole]) (amakeSlice cfg.P 22 (vI x29b) (vI x29b) (H2 ++ [AObj.hole, AObj.hole, AObj.hole])) = some (vS x34a x34n x34c, H3)) (h9 : H3[H2.length + 2]? = some AObj.hole) (h10 : 1 = 1) (h11 : setCells (List.set H3 (H2.length + 2) (vo [vS none 0 0] 22)) H.length (H2.length + 2) 1 0 [vS x34a x34n x34c] = some H4) (h12 : placeA (H2.length + 1) H4 (amakeSlice cfg.P 22 (vI x29b) (vI x29b) H4) = some (vS x36a x36n x36c, H5)) (h13 : 0 ≤ x29b) (h14 : x29b = x29b) (h15 : x29b ≤ 9223372036854775807) (h16 : (↑24 : Int) * x29b ≤ 2 ^ 48) (h17 : 1 = 1) (h18 : setCells (H5 ++ [AObj.cells (repCells [vS none 0 0] x29b.toNat) 22 (repCells [vS none 0 0] x29b.toNat).length OMode.row] ++ [vo [vS none 0 0] 86]) H.length (List.length (H5 ++ [AObj.cells (repCells [vS none 0 0] x29b.toNat) 22 (repCells [vS none 0 0] x29b.toNat).length OMode.row])) 1 0 [vS (some ⟨H5.length, 0, some (x29b.toNat * 1)⟩) x29b.toNat x29b.toNat] = some H6) (h19 : lI a31 0 prot H ([vS x26a x26n x26c, vS x29aa x29an x29ac, vI x29b, Value.pointer (some ⟨H2.length + 2, 0, some 1⟩), vS x36a x36n x36c, Value.pointer (some ⟨List.length (H5 ++ [AObj.cells (repCells [vS none 0 0] x29b.toNat) 22 (repCells [vS none 0 0] x29b.toNat).length OMode.row]), 0, some 1⟩), vI (↑x26n : Int), vI 0], H6) = some (Ex.exit 0, [vI z8, vP z10p z10o z10l, vS z11a z11n z11c, vP z12p z12o z12l], H7)) (h20 : lI a31 2 prot H ([vI z8, vP z10p z10o z10l, vS z11a z11n z11c, vP z12p z12o z12l, vI z8, vI 0], H7) = some (Ex.exit 4, [z2, z3, z4, vI z8_2, vP z10p_2 z10o_2 z10l_2, vP z12p_2 z12o_2 z12l_2], H8)) (h21 : 0 ≤ z8_2) (h22 : z8_2 = z8_2) (h23 : z8_2 ≤ 9223372036854775807) (h24 : (↑8 : Int) * z8_2 ≤ 2 ^ 48) (h25 : 1 = 1) (h26 : setCells (H8 ++ [AObj.cells (repCells [vI 0] z8_2.toNat) 3 (repCells [vI 0] z8_2.toNat).length OMode.row] ++ [vo [vS none 0 0] 22]) H.length (List.length (H8 ++ [AObj.cells (repCells [vI 0] z8_2.toNat) 3 (repCells [vI 0] z8_2.toNat).length OMode.row])) 1 0 [vS (some ⟨H8.length, 0, some (z8_2.toNat * 1)⟩) z8_2.toNat z8_2.toNat] = some H9) (h27 : [Value.func (Fn.func 57) #[] #[Value.pointer (some ⟨List.length (H8 ++ [AObj.cells (repCells [vI 0] z8_2.toNat) 3 (repCells [vI 0] z8_2.toNat).length OMode.row]), 0, some 1⟩), vP z12p_2 z12o_2 z12l_2, vP H9.length 0 1, vP z10p_2 z10o_2 z10l_2]].length = 1) (h28 : setCells (H9 ++ [vo [Value.nilFunc] 82]) H.length H9.length 1 0 [Value.func (Fn.func 57) #[] #[Value.pointer (some ⟨List.length (H8 ++ [AObj.cells (repCells [vI 0] z8_2.toNat) 3 (repCells [vI 0] z8_2.toNat).length OMode.row]), 0, some 1⟩), vP z12p_2 z12o_2 z12l_2, vP H9.length 0 1, vP z10p_2 z10o_2 z10l_2]] = some H10) (h29 : lI a31 3 prot H ([vI (-1), vP H9.length 0 1, vI z8_2, vI 0], H10) = some (Ex.exit 6, [vI z2_2], H11)) : callInf cfg 31 [.agg #[.int .i64 x0a, .slice x0ba x0bn x0bc, .slice x0ca x0cn x0cc]] prot H = some (Value.tuple { toList := [Value.int .i64 z2_2, Value.bool true, Value.int .i64 0] }, H) :=
 fn_of2 a31 [.e, .v (.agg #[vI x20a, vS x20ba x20bn x20bc, vS x20ca x20cn x20cc]), .v (vI x21), .e, .b false, .v (.agg #[vI x25a, vS x25ba x25bn x25bc, vS x25ca x25cn x25cc]), .r (vS x26a x26n x26c) H1, .r (.tuple #[vS x29aa x29an x29ac, vI x29b, vI x29c]) H2, .r (vS x34a x34n x34c) H3, .e, .h H4, .r (vS x36a x36n x36c) H5, .e, .e, .h H6, .e, .lo (.exit 0, [vI z8, vP z10p z10o z10l, vS z11a z11n z11c, vP z12p z12o z12l], H7), .lo (.exit 4, [z2, z3, z4, vI z8_2, vP z10p_2 z10o_2 z10l_2, vP z12p_2 z12o_2 z12l_2], H8), .e, .e, .h H9, .e, .h H10, .lo (.exit 6, [vI z2_2], H11)] (ai h1 (ai h2 (ai h3 (ai h4 (ai h5 (ai h6 (ai h7 (ai h8 (ai h9 (ai h10 (ai h11 (ai h12 (ai h13 (ai h14 (ai h15 (ai h16 (ai h17 (ai h18 (ai h19 (ai h20 (ai h21 (ai h22 (ai h23 (ai h24 (ai h25 (ai h26 (ai h27 (ai h28 (ai h29 (Eq.refl ((Value.tuple #[vI z2_2, Value.bool true, vI 0], H) : Value × AHeap))))))))))))))))))))))))))))))) (by kernel_rfl) rfl
theorem f31_F_2 {z2 : Int} {z3 : Bool} {z4 : Int} {z8_2 : Value} (h1 : [vI x0a, vS x0ba x0bn x0bc, vS x0ca x0cn x0cc].all isCell = true) (h2 : getCells (H ++ [vo [vI x0a, vS x0ba x0bn x0bc, vS x0ca x0cn x0cc] 25]) H.length 3 0 3 = some [vI x20a, vS x20ba x20bn x20bc, vS x20ca x20cn x20cc]) (h3 : cI 36 [Value.agg #[vI x20a, vS x20ba x20bn x20bc, vS x20ca x20cn x20cc]] H.length (H ++ [vo [vI x0a, vS x0ba x0bn x0bc, vS x0ca x0cn x0cc] 25]) = some (vI x21, H ++ [vo [vI x0a, vS x0ba x0bn x0bc, vS x0ca x0cn x0cc] 25])) (h4 : (x21 != 0) = false) (h5 : getCells (H ++ [vo [vI x0a, vS x0ba x0bn x0bc, vS x0ca x0cn x0cc] 25]) H.length 3 0 3 = some [vI x25a, vS x25ba x25bn x25bc, vS x25ca x25cn x25cc]) (h6 : cI 54 [Value.agg #[vI x25a, vS x25ba x25bn x25bc, vS x25ca x25cn x25cc]] H.length (H ++ [vo [vI x0a, vS x0ba x0bn x0bc, vS x0ca x0cn x0cc] 25]) = some (vS x26a x26n x26c, H1)) (h7 : cI 56 [vS x26a x26n x26c] H.length H1 = some (Value.tuple #[vS x29aa x29an x29ac, vI x29b, vI x29c], H2)) (h8 : placeA (H2.length + 0) (H2 ++ [AObj.hole, AObj.hole, AObj.hole]) (amakeSlice cfg.P 22 (vI x29b) (vI x29b) (H2 ++ [AObj.hole, AObj.hole, AObj.hole])) = some (vS x34a x34n x34c, H3)) (h9 : H3[H2.length + 2]? = some AObj.hole) (h10 : 1 = 1) (h11 : setCells (List.set H3 (H2.length + 2) (vo [vS none 0 0] 22)) H.length (H2.length + 2) 1 0 [vS x34a x34n x34c] = some H4) (h12 : placeA (H2.length + 1) H4 (amakeSlice cfg.P 22 (vI x29b) (vI x29b) H4) = some (vS x36a x36n x36c, H5)) (h13 : 0 ≤ x29b) (h14 : x29b = x29b) (h15 : x29b ≤ 9223372036854775807) (h16 : (↑24 : Int) * x29b ≤ 2 ^ 48) (h17 : 1 = 1) (h18 : setCells (H5 ++ [AObj.cells (repCells [vS none 0 0] x29b.toNat) 22 (repCells [vS none 0 0] x29b.toNat).length OMode.row] ++ [vo [vS none 0 0] 86]) H.length (List.length (H5 ++ [AObj.cells (repCells [vS none 0 0] x29b.toNat) 22 (repCells [vS none 0 0] x29b.toNat).length OMode.row])) 1 0 [vS (some ⟨H5.length, 0, some (x29b.toNat * 1)⟩) x29b.toNat x29b.toNat] = some H6) (h19 : lI a31 0 prot H ([vS x26a x26n x26c, vS x29aa x29an x29ac, vI x29b, Value.pointer (some ⟨H2.length + 2, 0, some 1⟩), vS x36a x36n x36c, Value.pointer (some ⟨List.length (H5 ++ [AObj.cells (repCells [vS none 0 0] x29b.toNat) 22 (repCells [vS none 0 0] x29b.toNat).length OMode.row]), 0, some 1⟩), vI (↑x26n : Int), vI 0], H6) = some (Ex.exit 0, [vI z8, vP z10p z10o z10l, vS z11a z11n z11c, vP z12p z12o z12l], H7)) (h20 : lI a31 2 prot H ([vI z8, vP z10p z10o z10l, vS z11a z11n z11c, vP z12p z12o z12l, vI z8, vI 0], H7) = some (Ex.ret, [vI z2, Value.bool z3, vI z4, z8_2, z10, z12], H8)) : callInf cfg 31 [.agg #[.int .i64 x0a, .slice x0ba x0bn x0bc, .slice x0ca x0cn x0cc]] prot H = some (Value.tuple { toList := [Value.int .i64 z2, Value.bool z3, Value.int .i64 z4] }, H) :=
 fn_of2 a31 [.e, .v (.agg #[vI x20a, vS x20ba x20bn x20bc, vS x20ca x20cn x20cc]), .v (vI x21), .e, .b false, .v (.agg #[vI x25a, vS x25ba x25bn x25bc, vS x25ca x25cn x25cc]), .r (vS x26a x26n x26c) H1, .r (.tuple #[vS x29aa x29an x29ac, vI x29b, vI x29c]) H2, .r (vS x34a x34n x34c) H3, .e, .h H4, .r (vS x36a x36n x36c) H5, .e, .e, .h H6, .e, .lo (.exit 0, [vI z8, vP z10p z10o z10l, vS z11a z11n z11c, vP z12p z12o z12l], H7), .lo (.ret, [vI z2, .bool z3, vI z4, z8_2, z10, z12], H8)] (ai h1 (ai h2 (ai h3 (ai h4 (ai h5 (ai h6 (ai h7 (ai h8 (ai h9 (ai h10 (ai h11 (ai h12 (ai h13 (ai h14 (ai h15 (ai h16 (ai h17 (ai h18 (ai h19 (ai h20 (Eq.refl ((Value.tuple #[vI z2, Value.bool z3, vI z4], H) : Value × AHeap)))))))))))))))))))))) (by kernel_rfl) rfl
theorem f31_L0_0 (h1 : x41 < x40) (h2 : aX 22 (vS x7a x7n x7c) (vI x41) = some (vP x47p x47o x47l)) (h3 : getCells H x47p x47l x47o 1 = some [vI x48]) (h4 : aX 22 (vS x11a x11n x11c) (vI x48) = some (vP x49p x49o x49l)) (h5 : getCells H x49p x49l x49o 1 = some [vI x50]) (h6 : Fit .i64 (x50 + 1)) (h7 : aX 22 (vS x11a x11n x11c) (vI x48) = some (vP x52p x52o x52l)) (h8 : 1 = 1) (h9 : setCells H H0.length x52p x52l x52o [vI (x50 + 1)] = some H2) (h10 : aX 86 (vS x6a x6n x6c) (vI x41) = some (vP x55p x55o x55l)) (h11 : getCells H2 x55p x55l x55o 1 = some [vS x56a x56n x56c]) (h12 : lI a31 1 prot H0 ([vS x6a x6n x6c, vS x7a x7n x7c, vI x8, vP x10p x10o x10l, vS x11a x11n x11c, vP x12p x12o x12l, vI x41, vI x40, vI x41, vS x56a x56n x56c, vI (↑x56n : Int), vI 0], H2) = some (Ex.exit 2, [vS z6a z6n z6c, vS z7a z7n z7c, vI z8, vP z10p z10o z10l, vS z11a z11n z11c, vP z12p z12o z12l, vI z40, vI z41], H3)) (h13 : Fit .i64 (z41 + 1)) : lpOf cfg a31 0 prot H0 ([.slice x6a x6n x6c, .slice x7a x7n x7c, .int .i64 x8, .pointer (some ⟨x10p, x10o, some x10l⟩), .slice x11a x11n x11c, .pointer (some ⟨x12p, x12o, some x12l⟩), .int .i64 x40, .int .i64 x41], H) = some (Sum.inl ([Value.slice z6a z6n z6c, Value.slice z7a z7n z7c, Value.int .i64 z8, Value.pointer (some ⟨z10p, z10o, some z10l⟩), Value.slice z11a z11n z11c, Value.pointer (some ⟨z12p, z12o, some z12l⟩), Value.int .i64 z40, Value.int .i64 (z41 + 1)], H3)) :=
 lp_of2 [.e, .b true, .v (vP x47p x47o x47l), .v (vI x48), .v (vP x49p x49o x49l), .v (vI x50), .e, .v (vP x52p x52o x52l), .h H2, .v (vP x55p x55o x55l), .v (vS x56a x56n x56c), .e, .lo (.exit 2, [vS z6a z6n z6c, vS z7a z7n z7c, vI z8, vP z10p z10o z10l, vS z11a z11n z11c, vP z12p z12o z12l, vI z40, vI z41], H3), .e] (ai (decide_eq_true h1) (ai h2 (ai h3 (ai h4 (ai h5 (ai h6 (ai h7 (ai h8 (ai h9 (ai h10 (ai h11 (ai h12 (ai h13 (Eq.refl (Sum.inl ([vS z6a z6n z6c, vS z7a z7n z7c, vI z8, vP z10p z10o z10l, vS z11a z11n z11c, vP z12p z12o z12l, vI z40, vI (z41 + 1)], H3) : LS ⊕ LO))))))))))))))) (by kernel_rfl)
theorem f31_L0_1 (h1 : ¬(x41 < x40)) : lpOf cfg a31 0 prot H0 ([.slice x6a x6n x6c, .slice x7a x7n x7c, .int .i64 x8, .pointer (some ⟨x10p, x10o, some x10l⟩), .slice x11a x11n x11c, .pointer (some ⟨x12p, x12o, some x12l⟩), .int .i64 x40, .int .i64 x41], H) = some (Sum.inr (Ex.exit 0, [Value.int .i64 x8, Value.pointer (some ⟨x10p, x10o, some x10l⟩), Value.slice x11a x11n x11c, Value.pointer (some ⟨x12p, x12o, some x12l⟩)], H)) :=
 lp_of2 [.e, .b false] (ai (decide_eq_false h1) (Eq.refl (Sum.inr (Ex.exit 0, [vI x8, vP x10p x10o x10l, vS x11a x11n x11c, vP x12p x12o x12l], H) : LS ⊕ LO))) (by kernel_rfl)
theorem f31_L1_0 (h1 : x58 < x57) (h2 : aX 22 (vS x56a x56n x56c) (vI x58) = some (vP x60p x60o x60l)) (h3 : getCells H x60p x60l x60o 1 = some [vI x61]) (h4 : aX 22 (vS x7a x7n x7c) (vI x13) = some (vP x64p x64o x64l)) (h5 : getCells H x64p x64l x64o 1 = some [vI x65]) (h6 : aX 22 (vS x7a x7n x7c) (vI x61) = some (vP x68p x68o x68l)) (h7 : getCells H x68p x68l x68o 1 = some [vI x69]) (h8 : (x65 == x69) = true) (h9 : getCells H x10p x10l x10o 1 = some [vS x71a x71n x71c]) (h10 : aX 22 (vS x7a x7n x7c) (vI x13) = some (vP x74p x74o x74l)) (h11 : getCells H x74p x74l x74o 1 = some [vI x75]) (h12 : aX 22 (vS x71a x71n x71c) (vI x75) = some (vP x76p x76o x76l)) (h13 : getCells H x76p x76l x76o 1 = some [vI x77]) (h14 : Fit .i64 (x77 + 1)) (h15 : aX 22 (vS x71a x71n x71c) (vI x75) = some (vP x79p x79o x79l)) (h16 : 1 = 1) (h17 : setCells H H0.length x79p x79l x79o [vI (x77 + 1)] = some H2) (h18 : Fit .i64 (x58 + 1)) : lpOf cfg a31 1 prot H0 ([.slice x6a x6n x6c, .slice x7a x7n x7c, .int .i64 x8, .pointer (some ⟨x10p, x10o, some x10l⟩), .slice x11a x11n x11c, .pointer (some ⟨x12p, x12o, some x12l⟩), .int .i64 x13, .int .i64 x40, .int .i64 x41, .slice x56a x56n x56c, .int .i64 x57, .int .i64 x58], H) = some (Sum.inl ([Value.slice x6a x6n x6c, Value.slice x7a x7n x7c, Value.int .i64 x8, Value.pointer (some ⟨x10p, x10o, some x10l⟩), Value.slice x11a x11n x11c, Value.pointer (some ⟨x12p, x12o, some x12l⟩), Value.int .i64 x13, Value.int .i64 x40, Value.int .i64 x41, Value.slice x56a x56n x56c, Value.int .i64 x57, Value.int .i64 (x58 + 1)], H2)) :=
 lp_of2 [.e, .b true, .v (vP x60p x60o x60l), .v (vI x61), .v (vP x64p x64o x64l), .v (vI x65), .v (vP x68p x68o x68l), .v (vI x69), .e, .b true, .v (vS x71a x71n x71c), .v (vP x74p x74o x74l), .v (vI x75), .v (vP x76p x76o x76l), .v (vI x77), .e, .v (vP x79p x79o x79l), .h H2, .e] (ai (decide_eq_true h1) (ai h2 (ai h3 (ai h4 (ai h5 (ai h6 (ai h7 (ai h8 (ai h9 (ai h10 (ai h11 (ai h12 (ai h13 (ai h14 (ai h15 (ai h16 (ai h17 (ai h18 (Eq.refl (Sum.inl ([vS x6a x6n x6c, vS x7a x7n x7c, vI x8, vP x10p x10o x10l, vS x11a x11n x11c, vP x12p x12o x12l, vI x13, vI x40, vI x41, vS x56a x56n x56c, vI x57, vI (x58 + 1)], H2) : LS ⊕ LO)))))))))))))))))))) (by kernel_rfl)
theorem f31_L1_1 (h1 : x58 < x57) (h2 : aX 22 (vS x56a x56n x56c) (vI x58) = some (vP x60p x60o x60l)) (h3 : getCells H x60p x60l x60o 1 = some [vI x61]) (h4 : aX 22 (vS x7a x7n x7c) (vI x13) = some (vP x64p x64o x64l)) (h5 : getCells H x64p x64l x64o 1 = some [vI x65]) (h6 : aX 22 (vS x7a x7n x7c) (vI x61) = some (vP x68p x68o x68l)) (h7 : getCells H x68p x68l x68o 1 = some [vI x69]) (h8 : (x65 == x69) = false) (h9 : getCells H x12p x12l x12o 1 = some [vS x80a x80n x80c]) (h10 : aX 22 (vS x7a x7n x7c) (vI x13) = some (vP x83p x83o x83l)) (h11 : getCells H x83p x83l x83o 1 = some [vI x84]) (h12 : getCells H x12p x12l x12o 1 = some [vS x85a x85n x85c]) (h13 : aX 22 (vS x7a x7n x7c) (vI x13) = some (vP x88p x88o x88l)) (h14 : getCells H x88p x88l x88o 1 = some [vI x89]) (h15 : aX 86 (vS x85a x85n x85c) (vI x89) = some (vP x90p x90o x90l)) (h16 : getCells H x90p x90l x90o 1 = some [vS x91a x91n x91c]) (h17 : aX 22 (vS x7a x7n x7c) (vI x61) = some (vP x94p x94o x94l)) (h18 : getCells H x94p x94l x94o 1 = some [vI x95]) (h19 : aappend cfg.P H0.length false 22 22 (vS x91a x91n x91c) (vS (some ⟨H.length, 0, some (1 * 1)⟩) 1 1) (H ++ [wo [vI x95] 3]) = some (vS x97a x97n x97c, H2)) (h20 : aX 86 (vS x80a x80n x80c) (vI x84) = some (vP x98p x98o x98l)) (h21 : 1 = 1) (h22 : setCells H2 H0.length x98p x98l x98o [vS x97a x97n x97c] = some H3) (h23 : Fit .i64 (x58 + 1)) : lpOf cfg a31 1 prot H0 ([.slice x6a x6n x6c, .slice x7a x7n x7c, .int .i64 x8, .pointer (some ⟨x10p, x10o, some x10l⟩), .slice x11a x11n x11c, .pointer (some ⟨x12p, x12o, some x12l⟩), .int .i64 x13, .int .i64 x40, .int .i64 x41, .slice x56a x56n x56c, .int .i64 x57, .int .i64 x58], H) = some (Sum.inl ([Value.slice x6a x6n x6c, Value.slice x7a x7n x7c, Value.int .i64 x8, Value.pointer (some ⟨x10p, x10o, some x10l⟩), Value.slice x11a x11n x11c, Value.pointer (some ⟨x12p, x12o, some x12l⟩), Value.int .i64 x13, Value.int .i64 x40, Value.int .i64 x41, Value.slice x56a x56n x56c, Value.int .i64 x57, Value.int .i64 (x58 + 1)], H3)) :=
 lp_of2 [.e, .b true, .v (vP x60p x60o x60l), .v (vI x61), .v (vP x64p x64o x64l), .v (vI x65), .v (vP x68p x68o x68l), .v (vI x69), .e, .b false, .v (vS x80a x80n x80c), .v (vP x83p x83o x83l), .v (vI x84), .v (vS x85a x85n x85c), .v (vP x88p x88o x88l), .v (vI x89), .v (vP x90p x90o x90l), .v (vS x91a x91n x91c), .v (vP x94p x94o x94l), .v (vI x95), .e, .r (vS x97a x97n x97c) H2, .v (vP x98p x98o x98l), .h H3, .e] (ai (decide_eq_true h1) (ai h2 (ai h3 (ai h4 (ai h5 (ai h6 (ai h7 (ai h8 (ai h9 (ai h10 (ai h11 (ai h12 (ai h13 (ai h14 (ai h15 (ai h16 (ai h17 (ai h18 (ai h19 (ai h20 (ai h21 (ai h22 (ai h23 (Eq.refl (Sum.inl ([vS x6a x6n x6c, vS x7a x7n x7c, vI x8, vP x10p x10o x10l, vS x11a x11n x11c, vP x12p x12o x12l, vI x13, vI x40, vI x41, vS x56a x56n x56c, vI x57, vI (x58 + 1)], H3) : LS ⊕ LO))))))))))))))))))))))))) (by kernel_rfl)
theorem f31_L1_2 (h1 : ¬(x58 < x57)) : lpOf cfg a31 1 prot H0 ([.slice x6a x6n x6c, .slice x7a x7n x7c, .int .i64 x8, .pointer (some ⟨x10p, x10o, some x10l⟩), .slice x11a x11n x11c, .pointer (some ⟨x12p, x12o, some x12l⟩), .int .i64 x13, .int .i64 x40, .int .i64 x41, .slice x56a x56n x56c, .int .i64 x57, .int .i64 x58], H) = some (Sum.inr (Ex.exit 2, [Value.slice x6a x6n x6c, Value.slice x7a x7n x7c, Value.int .i64 x8, Value.pointer (some ⟨x10p, x10o, some x10l⟩), Value.slice x11a x11n x11c, Value.pointer (some ⟨x12p, x12o, some x12l⟩), Value.int .i64 x40, Value.int .i64 x41], H)) :=
 lp_of2 [.e, .b false] (ai (decide_eq_false h1) (Eq.refl (Sum.inr (Ex.exit 2, [vS x6a x6n x6c, vS x7a x7n x7c, vI x8, vP x10p x10o x10l, vS x11a x11n x11c, vP x12p x12o x12l, vI x40, vI x41], H) : LS ⊕ LO))) (by kernel_rfl)
theorem f31_L2_0 (h1 : x102 < x101) (h2 : getCells H x10p x10l x10o 1 = some [vS x105a x105n x105c]) (h3 : aX 22 (vS x105a x105n x105c) (vI x102) = some (vP x107p x107o x107l)) (h4 : getCells H x107p x107l x107o 1 = some [vI x108]) (h5 : aX 22 (vS x11a x11n x11c) (vI x102) = some (vP x111p x111o x111l)) (h6 : getCells H x111p x111l x111o 1 = some [vI x112]) (h7 : x108 > x112) : lpOf cfg a31 2 prot H0 ([.int .i64 x8, .pointer (some ⟨x10p, x10o, some x10l⟩), .slice x11a x11n x11c, .pointer (some ⟨x12p, x12o, some x12l⟩), .int .i64 x101, .int .i64 x102], H) = some (Sum.inr (Ex.ret, [Value.int .i64 0, Value.bool false, Value.int .i64 0, Value.int .i64 x8, Value.pointer (some ⟨x10p, x10o, some x10l⟩), Value.pointer (some ⟨x12p, x12o, some x12l⟩)], H)) :=
 lp_of2 [.e, .b true, .v (vS x105a x105n x105c), .v (vP x107p x107o x107l), .v (vI x108), .v (vP x111p x111o x111l), .v (vI x112), .e, .b true] (ai (decide_eq_true h1) (ai h2 (ai h3 (ai h4 (ai h5 (ai h6 (ai (decide_eq_true h7) (Eq.refl (Sum.inr (Ex.ret, [vI 0, Value.bool false, vI 0, vI x8, vP x10p x10o x10l, vP x12p x12o x12l], H) : LS ⊕ LO))))))))) (by kernel_rfl)
theorem f31_L2_1 (h1 : x102 < x101) (h2 : getCells H x10p x10l x10o 1 = some [vS x105a x105n x105c]) (h3 : aX 22 (vS x105a x105n x105c) (vI x102) = some (vP x107p x107o x107l)) (h4 : getCells H x107p x107l x107o 1 = some [vI x108]) (h5 : aX 22 (vS x11a x11n x11c) (vI x102) = some (vP x111p x111o x111l)) (h6 : getCells H x111p x111l x111o 1 = some [vI x112]) (h7 : ¬(x108 > x112)) (h8 : Fit .i64 (x102 + 1)) : lpOf cfg a31 2 prot H0 ([.int .i64 x8, .pointer (some ⟨x10p, x10o, some x10l⟩), .slice x11a x11n x11c, .pointer (some ⟨x12p, x12o, some x12l⟩), .int .i64 x101, .int .i64 x102], H) = some (Sum.inl ([Value.int .i64 x8, Value.pointer (some ⟨x10p, x10o, some x10l⟩), Value.slice x11a x11n x11c, Value.pointer (some ⟨x12p, x12o, some x12l⟩), Value.int .i64 x101, Value.int .i64 (x102 + 1)], H)) :=
 lp_of2 [.e, .b true, .v (vS x105a x105n x105c), .v (vP x107p x107o x107l), .v (vI x108), .v (vP x111p x111o x111l), .v (vI x112), .e, .b false, .e] (ai (decide_eq_true h1) (ai h2 (ai h3 (ai h4 (ai h5 (ai h6 (ai (decide_eq_false h7) (ai h8 (Eq.refl (Sum.inl ([vI x8, vP x10p x10o x10l, vS x11a x11n x11c, vP x12p x12o x12l, vI x101, vI (x102 + 1)], H) : LS ⊕ LO)))))))))) (by kernel_rfl)
theorem f31_L2_2 (h1 : ¬(x102 < x101)) : lpOf cfg a31 2 prot H0 ([.int .i64 x8, .pointer (some ⟨x10p, x10o, some x10l⟩), .slice x11a x11n x11c, .pointer (some ⟨x12p, x12o, some x12l⟩), .int .i64 x101, .int .i64 x102], H) = some (Sum.inr (Ex.exit 4, [Value.tuple { toList := [] }, Value.tuple { toList := [] }, Value.tuple { toList := [] }, Value.int .i64 x8, Value.pointer (some ⟨x10p, x10o, some x10l⟩), Value.pointer (some ⟨x12p, x12o, some x12l⟩)], H)) :=
 lp_of2 [.e, .b false] (ai (decide_eq_false h1) (Eq.refl (Sum.inr (Ex.exit 4, [Value.tuple #[], Value.tuple #[], Value.tuple #[], vI x8, vP x10p x10o x10l, vP x12p x12o x12l], H) : LS ⊕ LO))) (by kernel_rfl)
theorem f31_L3_0 (h1 : x119 < x118) (h2 : getCells H x18p x18l x18o 1 = some [Value.func (Fn.func 57) #[] #[vP x123ap x123ao x123al, vP x123bp x123bo x123bl, vP x123cp x123co x123cl, vP x123dp x123do x123dl]]) (h3 : cI 57 [vI x119, vP x123ap x123ao x123al, vP x123bp x123bo x123bl, vP x123cp x123co x123cl, vP x123dp x123do x123dl] H0.length H = some (vI x125, H2)) (h4 : Fit .i64 (x125 - 2)) (h5 : Fit .i64 (x119 + 1)) : lpOf cfg a31 3 prot H0 ([.int .i64 x2, .pointer (some ⟨x18p, x18o, some x18l⟩), .int .i64 x118, .int .i64 x119], H) = some (Sum.inl ([Value.int .i64 (if x125 - 2 > x2 then x125 - 2 else x2), Value.pointer (some ⟨x18p, x18o, some x18l⟩), Value.int .i64 x118, Value.int .i64 (x119 + 1)], H2)) :=
 lp_of2 [.e, .b true, .v (.func (.func 57) #[] #[vP x123ap x123ao x123al, vP x123bp x123bo x123bl, vP x123cp x123co x123cl, vP x123dp x123do x123dl]), .r (vI x125) H2, .e, .e, .e] (ai (decide_eq_true h1) (ai h2 (ai h3 (ai h4 (ai h5 (Eq.refl (Sum.inl ([vI (if x125 - 2 > x2 then x125 - 2 else x2), vP x18p x18o x18l, vI x118, vI (x119 + 1)], H2) : LS ⊕ LO))))))) (by kernel_rfl)
theorem f31_L3_1 (h1 : ¬(x119 < x118)) : lpOf cfg a31 3 prot H0 ([.int .i64 x2, .pointer (some ⟨x18p, x18o, some x18l⟩), .int .i64 x118, .int .i64 x119], H) = some (Sum.inr (Ex.exit 6, [Value.int .i64 x2], H)) :=
 lp_of2 [.e, .b false] (ai (decide_eq_false h1) (Eq.refl (Sum.inr (Ex.exit 6, [vI x2], H) : LS ⊕ LO))) (by kernel_rfl)
end
end Go.Proofs.Ythjkodbinkiifaa.Am23
namespace Go.Proofs.Ythjkodbinkiifaa.Am23
open Go Go.Proofs.Ythjkodbinkiifaa.Am
open Am23g (addE Out Mine out_start gc_mine Gr nl)
/-! Growth. -/
def RowsR (H : AHeap) (x : Value) (N : Nat) (R : Nat → List Nat) : Prop := ∃ cs, Rd H 22 1 x N cs ∧ ∀ j, j < N → ∃ r, cs[j]? = some r ∧ Rd H 3 1 r (R j).length (il (nl (R j)))
theorem RowsR.stay {H H' : AHeap} {x : Value} {N : Nat} {R : Nat → List Nat} (h : RowsR H x N R) (s : Stay none H H') : RowsR H' x N R := by
 obtain ⟨cs, h1, h2⟩ := h
 exact ⟨cs, h1.stay s, fun j hj => by obtain ⟨r, a, b⟩ := h2 j hj; exact ⟨r, a, b.stay s⟩⟩
theorem RowsR.at {H : AHeap} {x : Value} {N : Nat} {R : Nat → List Nat} (h : RowsR H x N R) {j : Nat} (hj : j < N) : ∃ id L a c, aindexAddr cfg.P 86 x (.int .i64 (j : Nat)) = some (.pointer (some ⟨id, j, some L⟩)) ∧ getCells H id L j 1 = some [.slice a (R j).length c] ∧ Rd H 3 1 (.slice a (R j).length c) (R j).length (il (nl (R j))) := by
 obtain ⟨cs, h1, h2⟩ := h
 obtain ⟨r, h3, h4⟩ := h2 j hj
 obtain ⟨id, L, h5, h6⟩ := rd_at Am23g.T22 h1 h3
 obtain ⟨a, c, e⟩ := h4.len
 subst e
 exact ⟨id, L, a, c, h5, h6, h4⟩
theorem nl_get {l : List Nat} {i t : Nat} (h : l[i]? = some t) : (il (nl l))[i]? = some (.int .i64 ((t : Nat) : Int)) := by
 unfold il nl; rw [List.getElem?_map, List.getElem?_map, h]; rfl
theorem drop_cons {l : List Nat} {i t : Nat} (h : l[i]? = some t) : l.drop i = t :: l.drop (i + 1) := by
 obtain ⟨h1, h2⟩ := List.getElem?_eq_some_iff.1 h
 rw [List.drop_eq_getElem_cons h1, h2]
section
variable {Hb : AHeap} {N n : Nat} {R : Nat → List Nat} {lc : Nat → Nat} {cl : List Value} {xg xl xe xz xo : Value} {pe po oe oz o3 : Nat}
theorem loop31a (hN : N ≤ 512) (hlc : ∀ v, v < N → lc v < n) (hcl : ∀ v, v < N → cl[v]? = some (.int .i64 ((lc v : Nat) : Int))) (hR : ∀ j t, t ∈ R j → t < N) (hRl : ∀ j, (R j).length ≤ 1000) (hg : ∃ a c, xg = .slice a N c) (hl : Rd Hb 3 1 xl N cl) {H0 : AHeap} (h0 : H0.length ≤ Hb.length) {prot s M : Nat} (hs : s < N) (hM : M ≤ 1000000) {a : Option Addr} {c : Nat} (hr : Rd Hb 3 1 (.slice a (R s).length c) (R s).length (il (nl (R s)))) {Z : Nat → Nat} : ∀ (d i : Nat) (E : Nat → Nat) (T : Nat → List Nat) (r : Nat → Value) (o : Nat → Option Nat) (H : AHeap), i + d = (R s).length →
   E31 Hb H n xe xz xo pe po oe oz o3 r o E Z T → (∀ x, E x ≤ M + i) → (∀ x, (T x).length ≤ M + i) →
  ∃ r' o' H', lpInf (lpOf cfg a31 1 prot H0) ([xg, xl, .int .i64 n, .pointer (some ⟨pe, 0, some 1⟩), xz, .pointer (some ⟨po, 0, some 1⟩), .int .i64 s, .int .i64 N, .int .i64 s, .slice a (R s).length c, .int .i64 (R s).length, .int .i64 i], H) =
    some (.exit 2, [xg, xl, .int .i64 n, .pointer (some ⟨pe, 0, some 1⟩), xz, .pointer (some ⟨po, 0, some 1⟩), .int .i64 N, .int .i64 s], H') ∧
   E31 Hb H' n xe xz xo pe po oe oz o3 r' o' (((R s).drop i).foldl (eStep lc s) E) Z (((R s).drop i).foldl (oStep lc s) T)
 | 0, i, E, T, r, o, H, hi, h, hE, hT => by
  rw [List.drop_eq_nil_of_le (by omega)]
  refine ⟨r, o, H, ?_, h⟩
  obtain ⟨_, _, rfl⟩ := hg
  obtain ⟨_, _, rfl⟩ := hl.len
  obtain ⟨_, _, rfl⟩ := h.z.len
  exact lp_last (f31_L1_2 (by omega))
 | d + 1, i, E, T, r, o, H, hi, h, hE, hT => by
  have hil : i < (R s).length := by omega
  have hRs := hRl s
  obtain ⟨t, ht⟩ : ∃ t, (R s)[i]? = some t := ⟨_, List.getElem?_eq_getElem hil⟩
  have htN := hR s t (List.mem_of_getElem? ht)
  rw [drop_cons ht, List.foldl_cons, List.foldl_cons]
  obtain ⟨i1, L1, a1, a2⟩ := rd_at T22 (hr.stay h.st) (nl_get ht)
  obtain ⟨i2, L2, b1, b2⟩ := rd_at T22 (hl.stay h.st) (hcl s hs)
  obtain ⟨i3, L3, c1, c2⟩ := rd_at T22 (hl.stay h.st) (hcl t htN)
  have fi : Fit .i64 ((i : Int) + 1) := fit64 (by omega) (by omega)
  have hcs := hlc s hs
  have hEs := hE (lc s)
  have hTs := hT (lc s)
  have q1 := one_get h.ge
  have q2 := one_get h.go
  have hE' : ∀ x, eStep lc s E t x ≤ M + (i + 1) := fun x => eStep_le hE
  have hT' : ∀ x, (oStep lc s T t x).length ≤ M + (i + 1) := fun x => oStep_len hT
  by_cases e : lc s = lc t
  ·obtain ⟨L, H1, d1, d2, d3, d4⟩ := h.bE hcs (prot := H0.length) h0
   have e1 : eStep lc s E t = bmp E (lc s) := by unfold eStep; rw [if_pos e]
   have e2 : oStep lc s T t = T := by unfold oStep; rw [if_pos e]
   rw [← e1] at d4
   rw [e2] at hT' ⊢
   obtain ⟨r', o', H', z1, z2⟩ := loop31a hN hlc hcl hR hRl hg hl h0 (prot := prot) hs hM hr d (i + 1) _ T r o H1 (by omega) d4 hE' hT'
   refine ⟨r', o', H', ?_, z2⟩
   obtain ⟨_, _, rfl⟩ := hg
   obtain ⟨_, _, rfl⟩ := hl.len
   obtain ⟨_, _, rfl⟩ := h.z.len
   obtain ⟨_, _, rfl⟩ := h.e.len
   exact lp_next (f31_L1_0 (by omega) a1 a2 b1 b2 c1 c2 (by rw [e]; simp) q1 b1 b2 d1 d2 (fit64 (by omega) (by omega)) d1 rfl d3 fi) z1
  ·obtain ⟨a', c', H2, H3, id3, L, d1, d2, d3, d4, r1, o1, d5⟩ := h.bT hcs (lc t) (by omega) (prot := H0.length) h0 (room := false)
   have e1 : eStep lc s E t = E := by unfold eStep; rw [if_neg e]
   have e2 : oStep lc s T t = addE T (lc s) (lc t) := by unfold oStep; rw [if_neg e]
   rw [← e2] at d5
   rw [e1] at hE' ⊢
   obtain ⟨r', o', H', z1, z2⟩ := loop31a hN hlc hcl hR hRl hg hl h0 (prot := prot) hs hM hr d (i + 1) E _ r1 o1 H3 (by omega) d5 hE' hT'
   refine ⟨r', o', H', ?_, z2⟩
   obtain ⟨_, _, hre⟩ := (h.out.rx _ hcs).len
   rw [hre] at d2 d3
   have hne : (((lc s : Nat) : Int) == ((lc t : Nat) : Int)) = false := by simp; omega
   obtain ⟨_, _, rfl⟩ := hg
   obtain ⟨_, _, rfl⟩ := hl.len
   obtain ⟨_, _, rfl⟩ := h.z.len
   obtain ⟨_, _, rfl⟩ := h.e.len
   obtain ⟨_, _, rfl⟩ := h.out.x3.len
   exact lp_next (f31_L1_1 (by omega) a1 a2 b1 b2 c1 c2 hne q2 b1 b2 q2 b1 b2 d1 d2 c1 c2 d3 d1 rfl d4 fi) z1
theorem loop31b (hN : N ≤ 512) (hlc : ∀ v, v < N → lc v < n) (hcl : ∀ v, v < N → cl[v]? = some (.int .i64 ((lc v : Nat) : Int))) (hR : ∀ j t, t ∈ R j → t < N) (hRl : ∀ j, (R j).length ≤ 1000) (hg : RowsR Hb xg N R) (hl : Rd Hb 3 1 xl N cl) {H0 : AHeap} (h0 : H0.length ≤ Hb.length) {prot : Nat} : ∀ (d s : Nat) (E Z : Nat → Nat) (T : Nat → List Nat) (r : Nat → Value) (o : Nat → Option Nat) (H : AHeap), s + d = N →
   E31 Hb H n xe xz xo pe po oe oz o3 r o E Z T → (∀ x, E x ≤ s * 1000) → (∀ x, Z x ≤ s) → (∀ x, (T x).length ≤ s * 1000) →
  ∃ r' o' H', lpInf (lpOf cfg a31 0 prot H0) ([xg, xl, .int .i64 n, .pointer (some ⟨pe, 0, some 1⟩), xz, .pointer (some ⟨po, 0, some 1⟩), .int .i64 N, .int .i64 s], H) =
    some (.exit 0, [.int .i64 n, .pointer (some ⟨pe, 0, some 1⟩), xz, .pointer (some ⟨po, 0, some 1⟩)], H') ∧
   E31 Hb H' n xe xz xo pe po oe oz o3 r' o' (eAll lc R d s E) (zAll lc d s Z) (oAll lc R d s T)
 | 0, s, E, Z, T, r, o, H, hi, h, hE, hZ, hT => by
  refine ⟨r, o, H, ?_, h⟩
  obtain ⟨_, hgr, _⟩ := hg
  obtain ⟨_, _, rfl⟩ := hgr.len
  obtain ⟨_, _, rfl⟩ := hl.len
  obtain ⟨_, _, rfl⟩ := h.z.len
  exact lp_last (f31_L0_1 (by omega))
 | d + 1, s, E, Z, T, r, o, H, hi, h, hE, hZ, hT => by
  have hs : s < N := by omega
  have hcs := hlc s hs
  have hRs := hRl s
  obtain ⟨i2, L2, b1, b2⟩ := rd_at T22 (hl.stay h.st) (hcl s hs)
  obtain ⟨L, H1, d1, d2, d3, d4⟩ := h.bZ hcs (prot := H0.length) h0
  obtain ⟨id, L4, a, c, g1, g2, g3⟩ := (hg.stay d4.st).at hs
  obtain ⟨_, _, a0, c0, _, g4, g5⟩ := hg.at hs
  have hg' := hg
  obtain ⟨_, hgr, _⟩ := hg'
  have hrow : Rd Hb 3 1 (.slice a (R s).length c) (R s).length (il (nl (R s))) := by
   obtain ⟨cs, h1, h2⟩ := hg
   obtain ⟨r, h3, h4⟩ := h2 s hs
   obtain ⟨i5, L5, h5, h6⟩ := rd_at Am23g.T22 (h1.stay d4.st) h3
   rw [h5] at g1
   cases g1
   rw [h6] at g2
   cases g2
   exact h4
  obtain ⟨r1, o1, H2, y1, y2⟩ := loop31a hN hlc hcl hR hRl hgr.len hl h0 (prot := prot) hs (M := s * 1000) (by omega) hrow (R s).length 0 E T r o H1 (by omega) d4 (fun x => by rw [Nat.add_zero]; exact hE x) (fun x => by rw [Nat.add_zero]; exact hT x)
  rw [List.drop_zero] at y2
  obtain ⟨r', o', H', z1, z2⟩ := loop31b hN hlc hcl hR hRl hg hl h0 (prot := prot) d (s + 1) _ _ _ r1 o1 H2 (by omega) y2 (fun x => by
   have := eFold_le (lc := lc) (s := s) (R s) (x := x) hE; omega) (fun x => by
   have := bmp_le (c := lc s) (x := x) hZ; omega) (fun x => by
   have := oFold_len (lc := lc) (s := s) (R s) (x := x) hT; omega)
  refine ⟨r', o', H', ?_, z2⟩
  have hZs := hZ (lc s)
  obtain ⟨_, _, rfl⟩ := hgr.len
  obtain ⟨_, _, rfl⟩ := hl.len
  obtain ⟨_, _, rfl⟩ := h.z.len
  exact lp_next (f31_L0_0 (by omega) b1 b2 d1 d2 (fit64 (by omega) (by omega)) d1 rfl d3 g1 g2 y1 (fit64 (by omega) (by omega))) z1
/-- Has a component more edges than vertices? -/
theorem loop31c {H H0 : AHeap} {r : Nat → Value} {o : Nat → Option Nat} {E Z : Nat → Nat} {T : Nat → List Nat} {prot : Nat} (hn : n ≤ 512) (h : E31 Hb H n xe xz xo pe po oe oz o3 r o E Z T) : ∀ (d c : Nat), c + d = n → (∀ x, x < c → E x ≤ Z x) →
  ((∃ x, x < n ∧ Z x < E x) ∧ lpInf (lpOf cfg a31 2 prot H0) ([.int .i64 n, .pointer (some ⟨pe, 0, some 1⟩), xz, .pointer (some ⟨po, 0, some 1⟩), .int .i64 n, .int .i64 c], H) = some (.ret, [.int .i64 0, .bool false, .int .i64 0, .int .i64 n, .pointer (some ⟨pe, 0, some 1⟩), .pointer (some ⟨po, 0, some 1⟩)], H)) ∨
  ((∀ x, x < n → E x ≤ Z x) ∧ lpInf (lpOf cfg a31 2 prot H0) ([.int .i64 n, .pointer (some ⟨pe, 0, some 1⟩), xz, .pointer (some ⟨po, 0, some 1⟩), .int .i64 n, .int .i64 c], H) = some (.exit 4, [.tuple #[], .tuple #[], .tuple #[], .int .i64 n, .pointer (some ⟨pe, 0, some 1⟩), .pointer (some ⟨po, 0, some 1⟩)], H))
 | 0, c, hi, hE => by
  have : c = n := by omega
  subst this
  obtain ⟨_, _, rfl⟩ := h.z.len
  exact .inr ⟨hE, lp_last (f31_L2_2 (by omega))⟩
 | d + 1, c, hi, hE => by
  have hc : c < n := by omega
  have q1 := one_get h.ge
  obtain ⟨i1, L1, a1, a2⟩ := own_at T22 h.e (faL_get hc)
  obtain ⟨i2, L2, b1, b2⟩ := own_at T22 h.z (faL_get hc)
  have fi : Fit .i64 ((c : Int) + 1) := fit64 (by omega) (by omega)
  by_cases e : Z c < E c
  ·obtain ⟨_, _, rfl⟩ := h.z.len
   obtain ⟨_, _, rfl⟩ := h.e.len
   exact .inl ⟨⟨c, hc, e⟩, lp_last (f31_L2_0 (by omega) q1 a1 a2 b1 b2 (by omega))⟩
  ·have ih := loop31c (H0 := H0) (prot := prot) hn h d (c + 1) (by omega) (fun x hx => by
    by_cases ex : x = c
    ·subst ex; omega
    ·exact hE x (by omega))
   obtain ⟨_, _, rfl⟩ := h.z.len
   obtain ⟨_, _, rfl⟩ := h.e.len
   rcases ih with ⟨h1, h2⟩ | ⟨h1, h2⟩
   ·exact .inl ⟨h1, lp_next (f31_L2_1 (by omega) q1 a1 a2 b1 b2 (by omega) fi) h2⟩
   ·exact .inr ⟨h1, lp_next (f31_L2_1 (by omega) q1 a1 a2 b1 b2 (by omega) fi) h2⟩
end
/-- The degree. -/
theorem loop31d {B n : Nat} {T : Nat → List Nat} {h o E r : Nat → Nat} (hn : n ≤ 512) (hh : HtW (fun c d => decide (d ∈ T c)) n o h) (hT : ∀ c d, d ∈ T c → d < n ∧ d ≠ c ∧ r d < r c) (hT2 : ∀ c, (T c).length ≤ 1000000) (hb : ∀ c, c < n → h c ≤ 1000) (ho : ∀ c, c < n → o c = min 1 (E c)) {xd xg xe : Value} {od oe p1 p2 p3 p4 prot : Nat} {H0 : AHeap} (hp : H0.length ≤ od) : ∀ (d c : Nat) (m : Int) (D : Nat → Nat) (H : AHeap), c + d = n → WG (fGr p1 p2 p3 p4) B H n T (fun c => h c + 1) E xd xg xe od oe p1 p2 p3 p4 D → m = ((topH h c : Nat) : Int) - 1 →
  ∃ H', lpInf (lpOf cfg a31 3 prot H0) ([.int .i64 m, .pointer (some ⟨p3, 0, some 1⟩), .int .i64 n, .int .i64 c], H) = some (.exit 6, [.int .i64 (((topH h n : Nat) : Int) - 1)], H')
 | 0, c, m, D, H, hi, hw, hm => by
  have : c = n := by omega
  subst this
  subst hm
  exact ⟨H, lp_last (f31_L3_1 (by omega))⟩
 | d + 1, c, m, D, H, hi, hw, hm => by
  have hc : c < n := by omega
  have hbc := hb c hc
  have g3 := one_get hw.w.g3
  obtain ⟨D', H1, y1, y2, y3⟩ := c57 hn hh hT hT2 hb ho (prot := H0.length) hp (r c + 1) c H D hc (by omega) hw
  have hif : (if ((h c + 1 : Nat) : Int) - 2 > m then ((h c + 1 : Nat) : Int) - 2 else m) = ((topH h (c + 1) : Nat) : Int) - 1 := by
   subst hm
   rw [topH]
   split <;> omega
  obtain ⟨H', z1⟩ := loop31d hn hh hT hT2 hb ho (prot := prot) hp d (c + 1) _ D' H1 (by omega) y2 hif
  exact ⟨H', lp_next (f31_L3_0 (by omega) g3 y1 (fit64 (by omega) (by omega)) (fit64 (by omega) (by omega))) z1⟩
end Go.Proofs.Ythjkodbinkiifaa.Am23
namespace Go.Proofs.Ythjkodbinkiifaa.Am23
open Go Go.Proofs.Ythjkodbinkiifaa.Am
open Am23g (addE Out Mine out_start gc_mine Gr nl Rch RQ sc comp Lc abv Abv abv_iff chk Short Lc_lt comp_n)
/-! Growth, in plain terms. -/
theorem mem_oFold {lc : Nat → Nat} {s c d : Nat} : ∀ (l : List Nat) (T : Nat → List Nat), d ∈ l.foldl (oStep lc s) T c ↔ d ∈ T c ∨ ∃ t, t ∈ l ∧ lc s = c ∧ lc t = d ∧ c ≠ d
 | [], T => by simp
 | t :: l, T => by
  rw [List.foldl_cons, mem_oFold l]
  have : d ∈ oStep lc s T t c ↔ d ∈ T c ∨ (lc s = c ∧ lc t = d ∧ c ≠ d) := by
   unfold oStep
   split
   ·rename_i e
    constructor
    ·exact .inl
    ·rintro (h | ⟨h1, h2, h3⟩)
     ·exact h
     ·exact absurd (h1.symm.trans (e.trans h2)) h3
   ·rename_i e
    unfold addE
    split
    ·rename_i e2
     subst e2
     rw [List.mem_append, List.mem_singleton]
     constructor
     ·rintro (h | h)
      ·exact .inl h
      ·exact .inr ⟨rfl, h.symm, fun e3 => e (e3.trans h)⟩
     ·rintro (h | ⟨_, h, _⟩)
      ·exact .inl h
      ·exact .inr h.symm
    ·rename_i e2
     constructor
     ·exact .inl
     ·rintro (h | ⟨h, _⟩)
      ·exact h
      ·exact absurd h.symm e2
  rw [this]
  constructor
  ·rintro ((h | ⟨h1, h2, h3⟩) | ⟨u, h1, h2⟩)
   ·exact .inl h
   ·exact .inr ⟨t, by simp, h1, h2, h3⟩
   ·exact .inr ⟨u, by simp [h1], h2⟩
  ·rintro (h | ⟨u, h1, h2⟩)
   ·exact .inl (.inl h)
   ·rcases List.mem_cons.1 h1 with rfl | h1
    ·exact .inl (.inr h2)
    ·exact .inr ⟨u, h1, h2⟩
theorem mem_oAll {lc : Nat → Nat} {R : Nat → List Nat} {c d : Nat} : ∀ (m s : Nat) (T : Nat → List Nat), d ∈ oAll lc R m s T c ↔ d ∈ T c ∨ ∃ x t, s ≤ x ∧ x < s + m ∧ t ∈ R x ∧ lc x = c ∧ lc t = d ∧ c ≠ d
 | 0, s, T => by
  rw [oAll]
  constructor
  ·exact .inl
  ·rintro (h | ⟨x, t, h1, h2, _⟩)
   ·exact h
   ·omega
 | m + 1, s, T => by
  rw [oAll, mem_oAll m, mem_oFold]
  constructor
  ·rintro ((h | ⟨t, h1, h2⟩) | ⟨x, t, h1, h2, h3⟩)
   ·exact .inl h
   ·exact .inr ⟨s, t, by omega, by omega, h1, h2⟩
   ·exact .inr ⟨x, t, by omega, by omega, h3⟩
  ·rintro (h | ⟨x, t, h1, h2, h3⟩)
   ·exact .inl (.inl h)
   ·by_cases e : x = s
    ·subst e; exact .inl (.inr ⟨t, h3⟩)
    ·exact .inr ⟨x, t, by omega, by omega, h3⟩
theorem oAll_len {lc : Nat → Nat} {R : Nat → List Nat} (hR : ∀ j, (R j).length ≤ 1000) : ∀ (m s M : Nat) (T : Nat → List Nat), (∀ x, (T x).length ≤ M) → ∀ x, (oAll lc R m s T x).length ≤ M + m * 1000
 | 0, s, M, T, h, x => by rw [oAll]; have := h x; omega
 | m + 1, s, M, T, h, x => by
  rw [oAll]
  have := oAll_len (lc := lc) hR m (s + 1) (M + 1000) ((R s).foldl (oStep lc s) T) (fun x => by
   have h1 := oFold_len (lc := lc) (s := s) (R s) (x := x) h
   have h2 := hR s
   exact Nat.le_trans h1 (by omega)) x
  rw [Nat.succ_mul]; omega
section
variable (k : Nat) (xs : List Int) (bs : List Bool)
noncomputable def gN : Nat := (comp (gU k xs bs)).2
noncomputable def gE : Nat → Nat := eAll (Lc (gU k xs bs)) (inL k xs (uB k xs bs)) bs.length 0 (fun _ => 0)
noncomputable def gZ : Nat → Nat := zAll (Lc (gU k xs bs)) bs.length 0 (fun _ => 0)
noncomputable def gT : Nat → List Nat := oAll (Lc (gU k xs bs)) (inL k xs (uB k xs bs)) bs.length 0 (fun _ => [])
noncomputable def gO : Nat → Nat := fun c => min 1 (gE k xs bs c)
noncomputable def gR : Nat → Nat := hgt (abv (gU k xs bs)) (gN k xs bs) (gN k xs bs)
noncomputable def gW : Nat → Nat := hgtW (abv (gU k xs bs)) (gN k xs bs) (gO k xs bs) (gN k xs bs)
end
open Classical in
/-- What Growth answers. -/
noncomputable def growV (k : Int) (xs : List Int) (bs : List Bool) : Int × Bool :=
 if chkG k xs bs = 0 ∧ ∀ c, c < gN k.toNat xs bs → gE k.toNat xs bs c ≤ gZ k.toNat xs bs c then (((topH (gW k.toNat xs bs) (gN k.toNat xs bs) : Nat) : Int) - 1, true) else (0, false)
section
variable {k : Nat} {xs : List Int} {bs : List Bool}
theorem gR_ok : Ht (abv (gU k xs bs)) (gN k xs bs) (gR k xs bs) :=
 hgt_ok (fun c d e h1 h2 => abv_iff.2 ((abv_iff.1 h1).trans (abv_iff.1 h2))) (fun c d h1 h2 => (abv_iff.1 h1).anti (abv_iff.1 h2))
theorem gW_ok : HtW (abv (gU k xs bs)) (gN k xs bs) (gO k xs bs) (gW k xs bs) := hgtW_ok gR_ok _
theorem gN_le (hG : Good k xs bs) : gN k xs bs ≤ 512 := by
 have := comp_n (gU k xs bs)
 rw [gU_len] at this
 have := hG.n5
 unfold gN; omega
theorem gW_le (hG : Good k xs bs) {c : Nat} (hc : c < gN k xs bs) : gW k xs bs c ≤ gN k xs bs := by
 have h1 := gR_ok.lt c hc
 have := gW_ok.le gR_ok (fun c _ => by unfold gO; omega) (gR k xs bs c + 1) c hc (by omega)
 omega
theorem lc_lt {v : Nat} (h : v < bs.length) : Lc (gU k xs bs) v < gN k xs bs := Lc_lt (by rw [gU_len]; exact h)
theorem gT_mem (hG : Good k xs bs) {c d : Nat} : d ∈ gT k xs bs c ↔ ∃ x t, x < bs.length ∧ t < bs.length ∧ t ∈ sc (gU k xs bs) x ∧ Lc (gU k xs bs) x = c ∧ Lc (gU k xs bs) t = d ∧ c ≠ d := by
 unfold gT
 rw [mem_oAll]
 constructor
 ·rintro (h | ⟨x, t, _, h2, h3, h4⟩)
  ·cases h
  ·have hx : x < bs.length := by omega
   refine ⟨x, t, hx, uB_lt hG (inL_mem.1 h3).2.1, ?_, h4⟩
   rw [sc_gU hx]; exact h3
 ·rintro ⟨x, t, h1, h2, h3, h4⟩
  rw [sc_gU h1] at h3
  exact .inr ⟨x, t, by omega, by omega, h3, h4⟩
theorem gT_abv (hG : Good k xs bs) {c d : Nat} (h : d ∈ gT k xs bs c) : abv (gU k xs bs) c d = true ∧ d < gN k xs bs ∧ c < gN k xs bs ∧ d ≠ c := by
 obtain ⟨x, t, h1, h2, h3, h4, h5, h6⟩ := (gT_mem hG).1 h
 refine ⟨abv_iff.2 ⟨x, t, by rw [gU_len]; exact h1, by rw [gU_len]; exact h2, h4, h5, .inr (.one h3)⟩, ?_, ?_, fun e => h6 e.symm⟩
 ·rw [← h5]; exact lc_lt h2
 ·rw [← h4]; exact lc_lt h1
/-- A way out of a component begins with an edge out of it. -/
theorem way_out (hG : Good k xs bs) {v u : Nat} (hr : Rch (gU k xs bs) v u) : u < bs.length → Lc (gU k xs bs) u ≠ Lc (gU k xs bs) v →
  ∃ e, e ∈ gT k xs bs (Lc (gU k xs bs) v) ∧ Abv (gU k xs bs) e (Lc (gU k xs bs) u) := by
 have self : ∀ {u}, u < bs.length → Abv (gU k xs bs) (Lc (gU k xs bs) u) (Lc (gU k xs bs) u) := fun {u} h => ⟨u, u, by rw [gU_len]; exact h, by rw [gU_len]; exact h, rfl, rfl, .inl rfl⟩
 induction hr with
 | one h => exact fun hu hne => ⟨_, (gT_mem hG).2 ⟨_, _, sc_lt' h, hu, h, rfl, rfl, fun e => hne e.symm⟩, self hu⟩
 | @step w u h1 h2 ih =>
  intro hu hne
  have hw := sc_lt' h2
  by_cases e : Lc (gU k xs bs) w = Lc (gU k xs bs) v
  ·refine ⟨_, (gT_mem hG).2 ⟨w, u, hw, hu, h2, e, rfl, fun e2 => hne e2.symm⟩, self hu⟩
  ·obtain ⟨x, x1, x2⟩ := ih hw e
   exact ⟨x, x1, x2.trans ⟨w, u, by rw [gU_len]; exact hw, by rw [gU_len]; exact hu, rfl, rfl, .inr (.one h2)⟩⟩
theorem gW_next (hG : Good k xs bs) : HtW (fun c d => decide (d ∈ gT k xs bs c)) (gN k xs bs) (gO k xs bs) (gW k xs bs) := by
 refine gW_ok.next (fun c d h => (gT_abv hG (of_decide_eq_true h)).1) (fun c d hc hd hne ha => ?_)
 obtain ⟨v, u, h1, h2, h3, h4, h5⟩ := abv_iff.1 ha
 rw [gU_len] at h1 h2
 rcases h5 with e | h5
 ·subst e; exact absurd (h4.symm.trans h3) hne
 ·subst h3; subst h4
  obtain ⟨e, e1, e2⟩ := way_out hG h5 h2 hne
  obtain ⟨_, g2, _, g4⟩ := gT_abv hG e1
  refine ⟨e, g2, g4, decide_eq_true e1, ?_⟩
  by_cases h : e = Lc (gU k xs bs) u
  ·exact .inl h
  ·exact .inr ⟨fun h' => h h'.symm, abv_iff.2 e2⟩
theorem gU_good (hG : Good k xs bs) : Short (gU k xs bs) ∧ chk (gU k xs bs) = 0 := by
 have h5 := hG.n5
 have h8 := hG.k8
 have hm : ∀ l, l ∈ gU k xs bs → ∃ s, s < bs.length ∧ l = nl (inL k xs (uB k xs bs) s) := fun l hl => by
  unfold gU at hl
  obtain ⟨s, h1, h2⟩ := List.mem_map.1 hl
  exact ⟨s, List.mem_range.1 h1, h2.symm⟩
 constructor
 ·intro l hl
  obtain ⟨s, _, rfl⟩ := hm l hl
  have := inL_len k xs (uB k xs bs) s
  unfold nl
  rw [List.length_map]; omega
 ·unfold chk
  rw [gU_len, if_neg (by omega), if_neg]
  intro h
  rw [List.any_eq_true] at h
  obtain ⟨l, hl, hb⟩ := h
  obtain ⟨s, _, rfl⟩ := hm l hl
  unfold Am23g.bad at hb
  rw [List.any_eq_true] at hb
  obtain ⟨x, hx, hb⟩ := hb
  unfold nl at hx
  obtain ⟨t, ht, rfl⟩ := List.mem_map.1 hx
  have := uB_lt hG (inL_mem.1 ht).2.1
  have := of_decide_eq_true hb
  omega
end
theorem gr_of {H : AHeap} {x : Value} {k : Nat} {xs : List Int} {bs : List Bool} (h : RowsR H x bs.length (inL k xs (uB k xs bs))) : Gr H x (gU k xs bs) := by
 obtain ⟨cs, h1, h2⟩ := h
 refine ⟨cs, by rw [gU_len]; exact h1, fun i l hi => ?_⟩
 have hil := (List.getElem?_eq_some_iff.1 hi).1
 rw [gU_len] at hil
 rw [gU_get hil] at hi
 cases hi
 obtain ⟨r, a, b⟩ := h2 i hil
 refine ⟨r, a, ?_⟩
 have : (nl (inL k xs (uB k xs bs) i)).length = (inL k xs (uB k xs bs) i).length := by unfold nl; rw [List.length_map]
 rw [this]; exact b
end Go.Proofs.Ythjkodbinkiifaa.Am23
namespace Go.Proofs.Ythjkodbinkiifaa.Am23
open Go Go.Proofs.Ythjkodbinkiifaa.Am
open Am23g (addE Out Mine out_start gc_mine Gr nl Rch RQ sc comp Lc abv Abv abv_iff chk Short Lc_lt comp_n)
theorem out_weak {B C : Nat} {H : AHeap} {x : Value} {N : Nat} {r : Nat → Value} {o : Nat → Option Nat} {o3 : Nat} {T : Nat → List Nat} (h : Out B H x N r o o3 T) (hc : C ≤ B) : Out C H x N r o o3 T :=
 ⟨h.x3, h.rx, Nat.le_trans hc h.b3, fun j hj a ha => Nat.le_trans hc (h.bo j hj a ha), h.dis⟩
theorem rep0 (n : Nat) : repCells [.int .i64 0] n = il (faL (fun _ => 0) n) := by
 have := rep_map (fun n => Value.int .i64 ((n : Nat) : Int)) 0 n
 rw [show Value.int .i64 0 = (fun n => Value.int .i64 ((n : Nat) : Int)) 0 from rfl, this]
 unfold il faL nl
 rw [List.map_const', List.length_range, List.map_replicate, List.map_replicate, List.map_replicate]
/-- One more list of counts. -/
theorem place_zero {H : AHeap} {n hid : Nat} (hn : 0 < n) (hn2 : n ≤ 512) (hh : H[hid]? = some .hole) :
  ∃ H', placeA hid H (amakeSlice cfg.P 22 (.int .i64 (n : Int)) (.int .i64 (n : Int)) H) = some (.slice (some ⟨hid, 0, some (n * 1)⟩) n n, H') ∧ Own H' 3 1 (.slice (some ⟨hid, 0, some (n * 1)⟩) n n) (some hid) n (il (faL (fun _ => 0) n)) ∧ Stay (some hid) H H' ∧ H'.length = H.length := by
 rw [make_eq T22 (z := .int .i64 0) (by kernel_rfl) rfl rfl (by omega) (by omega), show cellsOf (Value.int .i64 0) = [.int .i64 0] from rfl, rep0]
 exact place_make (by simp [il, faL_len]) hn hh
theorem var_put {H : AHeap} {p e : Nat} {v w : Value} (h : H[p]? = some (.cells [v] e 1 .var)) {prot : Nat} (hp : prot ≤ p) (hw : isCell w = true) :
  ∃ H', setCells H prot p 1 0 [w] = some H' ∧ H'[p]? = some (.cells [w] e 1 .var) ∧ Stay (some p) H H' ∧ H'.length = H.length :=
 ⟨_, arr_put h rfl hp rfl (by simp [hw]), List.getElem?_set_self (List.getElem?_eq_some_iff.1 h).1, set_stay, List.length_set⟩
theorem c31 {k : Int} {xs : List Int} {bs : List Bool} {vN vA : Value} (prot : Nat) (H : AHeap) (hA : IsA H xs bs vN vA) :
  callInf cfg 31 [av k vN vA] prot H = some (.tuple #[.int .i64 (growV k xs bs).1, .bool (growV k xs bs).2, .int .i64 (chkG k xs bs)], H) := by
 have hck := c36 (k := k) H.length (H ++ [bx k vN vA]) (hA.stay (Stay.app none H _))
 have hg : (H ++ [bx k vN vA])[H.length]? = some (bx k vN vA) := append_get.1
 have hA0 := hA
 obtain ⟨aN, cN, hNe⟩ := hA.n.len
 obtain ⟨aA, cA, hAe⟩ := hA.a.len
 subst hNe; subst hAe
 obtain ⟨_, _, _, g3⟩ := fld3 hg
 unfold growV
 by_cases h0 : chkG k xs bs = 0
 ·obtain ⟨k, rfl, hG⟩ := good_of h0
  rw [Int.toNat_natCast]
  rw [h0] at hck ⊢
  have hb1 := hG.n1
  have hb5 := hG.n5
  have hk8 := hG.k8
  obtain ⟨HX, hHX⟩ : ∃ HX, HX = H ++ [bx (k : Int) (.slice aN xs.length cN) (.slice aA bs.length cA)] := ⟨_, rfl⟩
  have lX : HX.length = H.length + 1 := by rw [hHX]; simp
  have sX : Stay none H HX := by rw [hHX]; exact Stay.app none H _
  obtain ⟨xg, H1, i1, i2, i3⟩ := c54 hG H.length HX (hA.stay sX)
  have hrg : RowsR H1 xg bs.length (inL k xs (uB k xs bs)) := i2.rd
  obtain ⟨hsh, hchk⟩ := gU_good hG
  rcases Am23g.c18 hsh H.length (gr_of hrg) with ⟨hne, _⟩ | ⟨_, xl, H2, j1, j2, j3, j4⟩
  ·exact absurd hchk hne
  have l1 := i3.1
  have l2 := j4.1
  have hlx := lX
  obtain ⟨n, hn⟩ : ∃ n, n = gN k xs bs := ⟨_, rfl⟩
  have hn0 : 0 < n := by have := lc_lt (k := k) (xs := xs) hb1; omega
  have hn5 : n ≤ 512 := by rw [hn]; exact gN_le hG
  obtain ⟨HP, hHP⟩ : ∃ HP, HP = H2 ++ [AObj.hole, AObj.hole, AObj.hole] := ⟨_, rfl⟩
  have lP : HP.length = H2.length + 3 := by rw [hHP]; simp
  have sP : Stay none H2 HP := by rw [hHP]; exact Stay.app none H2 _
  have hol : ∀ i, i < 3 → HP[H2.length + i]? = some .hole := fun i hi => by
   rw [hHP, List.getElem?_append_right (by omega)]
   match i, hi with
   | 0, _ => simp
   | 1, _ => simp
   | 2, _ => simp
  obtain ⟨H3, p1, p2, p3, p4⟩ := place_zero hn0 hn5 (hol 0 (by omega))
  rw [Nat.add_zero] at p2 p3
  have h3h : H3[H2.length + 2]? = some .hole := by rw [p3.2 _ (by omega) (fun e => by have := Option.some.inj e; omega)]; exact hol 2 (by omega)
  have h3h1 : H3[H2.length + 1]? = some .hole := by rw [p3.2 _ (by omega) (fun e => by have := Option.some.inj e; omega)]; exact hol 1 (by omega)
  obtain ⟨HQ, hHQ⟩ : ∃ HQ, HQ = H3.set (H2.length + 2) (vo [.slice none 0 0] 22) := ⟨_, rfl⟩
  have lQ : HQ.length = H2.length + 3 := by rw [hHQ, List.length_set]; omega
  have sQ : Stay (some (H2.length + 2)) H3 HQ := by rw [hHQ]; exact set_stay
  have gQ : HQ[H2.length + 2]? = some (.cells [.slice none 0 0] 22 1 .var) := by rw [hHQ]; exact List.getElem?_set_self (by omega)
  obtain ⟨H4, q1, q2, q3, q4⟩ := var_put (w := .slice (some ⟨H2.length + 0, 0, some (n * 1)⟩) n n) gQ (prot := H.length) (by omega) rfl
  have h4h1 : H4[H2.length + 1]? = some .hole := by
   rw [q3.2 _ (by omega) (fun e => by have := Option.some.inj e; omega), sQ.2 _ (by omega) (fun e => by have := Option.some.inj e; omega)]; exact h3h1
  obtain ⟨H5, r1, r2, r3, r4⟩ := place_zero hn0 hn5 h4h1
  have l5 : H5.length = H2.length + 3 := by omega
  obtain ⟨HA, hHA⟩ : ∃ HA, HA = H5 ++ [AObj.cells (repCells [.slice none 0 0] n) 22 (repCells [.slice none 0 0] n).length .row] := ⟨_, rfl⟩
  have hO := out_start hn0 H5
  rw [← hHA] at hO
  have sA : Stay none H5 HA := by rw [hHA]; exact Stay.app none H5 _
  have lA : HA.length = H2.length + 4 := by rw [hHA, List.length_append, List.length_singleton]; omega
  obtain ⟨HB, hHB⟩ : ∃ HB, HB = HA ++ [vo [.slice none 0 0] 86] := ⟨_, rfl⟩
  have sB : Stay none HA HB := by rw [hHB]; exact Stay.app none HA _
  have lB : HB.length = H2.length + 5 := by rw [hHB, List.length_append, List.length_singleton]; omega
  have gB : HB[HA.length]? = some (.cells [.slice none 0 0] 86 1 .var) := by rw [hHB]; exact append_get.1
  obtain ⟨xo, hxo⟩ : ∃ xo : Value, xo = .slice (some ⟨H5.length, 0, some (n * 1)⟩) n n := ⟨_, rfl⟩
  obtain ⟨H6, t1, t2, t3, t4⟩ := var_put (w := xo) gB (prot := H.length) (by omega) (by rw [hxo]; rfl)
  rw [← hxo] at hO
  have sAll : Stay none H2 H6 := ((((((sP.over p3 (fun id e => by have := Option.some.inj e; omega)).over sQ (fun id e => by have := Option.some.inj e; omega)).over q3 (fun id e => by have := Option.some.inj e; omega)).over r3 (fun id e => by have := Option.some.inj e; omega)).trans sA).trans sB).over t3 (fun id e => by have := Option.some.inj e; omega)
  have hpe : H6[H2.length + 2]? = some (.cells [.slice (some ⟨H2.length, 0, some (n * 1)⟩) n n] 22 1 .var) := by
   rw [t3.2 _ (by omega) (fun e => by have := Option.some.inj e; omega), sB.2 _ (by omega) (by simp), sA.2 _ (by omega) (by simp), r3.2 _ (by omega) (fun e => by have := Option.some.inj e; omega)]
   exact q2
  have hoe : Own H6 3 1 (.slice (some ⟨H2.length, 0, some (n * 1)⟩) n n) (some H2.length) n (il (faL (fun _ => 0) n)) :=
   ((((((p2.stay sQ (fun id e1 e2 => by cases e1; have := Option.some.inj e2; omega)).stay q3 (fun id e1 e2 => by cases e1; have := Option.some.inj e2; omega)).stay r3 (fun id e1 e2 => by cases e1; have := Option.some.inj e2; omega)).stay sA (fun _ _ h => by cases h)).stay sB (fun _ _ h => by cases h)).stay t3 (fun id e1 e2 => by cases e1; have := Option.some.inj e2; omega))
  have hoz : Own H6 3 1 (.slice (some ⟨H2.length + 1, 0, some (n * 1)⟩) n n) (some (H2.length + 1)) n (il (faL (fun _ => 0) n)) :=
   (((r2.stay sA (fun _ _ h => by cases h)).stay sB (fun _ _ h => by cases h)).stay t3 (fun id e1 e2 => by cases e1; have := Option.some.inj e2; omega))
  have hO6 : Out H2.length H6 xo n (fun _ => .slice none 0 0) (fun _ => none) H5.length (fun _ => []) := by
   refine out_weak (B := H5.length) ⟨(hO.x3.stay sB (fun _ _ h => by cases h)).stay t3 (fun id e1 e2 => by cases e1; have := Option.some.inj e2; omega), fun j hj => ((hO.rx j hj).stay sB (fun _ _ h => by cases h)).stay t3 (fun _ h => by cases h), hO.b3, hO.bo, hO.dis⟩ (by omega)
  have hE : E31 H2 H6 n (.slice (some ⟨H2.length, 0, some (n * 1)⟩) n n) (.slice (some ⟨H2.length + 1, 0, some (n * 1)⟩) n n) xo (H2.length + 2) HA.length H2.length (H2.length + 1) H5.length (fun _ => .slice none 0 0) (fun _ => none) (fun _ => 0) (fun _ => 0) (fun _ => []) :=
   ⟨sAll, hpe, t2, hoe, hoz, hO6, by omega, by omega, by omega, fun q hq => ⟨by omega, fun j _ h => by cases h⟩⟩
  have hcl : ∀ v, v < bs.length → (il (nl (comp (gU k xs bs)).1))[v]? = some (.int .i64 ((Lc (gU k xs bs) v : Nat) : Int)) := fun v hv => Am23g.comp_get (by rw [gU_len]; exact hv)
  have hRd : Rd H2 3 1 xl bs.length (il (nl (comp (gU k xs bs)).1)) := by have := j2.rd; rw [gU_len] at this; exact this
  obtain ⟨r', o', H7, z1, z2⟩ := loop31b hb5 (fun v hv => by rw [hn]; exact lc_lt hv) hcl (fun j t ht => uB_lt hG (inL_mem.1 ht).2.1) (fun j => by have := inL_len k xs (uB k xs bs) j; omega) (hrg.stay j4) hRd (H0 := H) (by omega) (prot := prot) bs.length 0 _ _ _ _ _ H6 (by omega) hE (fun _ => Nat.zero_le _) (fun _ => Nat.zero_le _) (fun _ => Nat.zero_le _)
  have z2' : E31 H2 H7 n (.slice (some ⟨H2.length, 0, some (n * 1)⟩) n n) (.slice (some ⟨H2.length + 1, 0, some (n * 1)⟩) n n) xo (H2.length + 2) HA.length H2.length (H2.length + 1) H5.length r' o' (gE k xs bs) (gZ k xs bs) (gT k xs bs) := z2
  have e17 : H6 = H6 := rfl
  obtain ⟨ag, cg, hxg⟩ : ∃ a c, xg = .slice a bs.length c := by obtain ⟨cs, h, _⟩ := hrg; exact h.len
  obtain ⟨al, cl, hxl⟩ := hRd.len
  have hnn : (((n : Nat) : Int)).toNat = n := Int.toNat_natCast n
  have j1' : callInf cfg 56 [xg] H.length H1 = some (.tuple #[xl, .int .i64 (n : Nat), .int .i64 0], H2) := by rw [hn]; exact j1
  have l7 := z2'.st.1
  have lpe := (List.getElem?_eq_some_iff.1 z2'.ge).1
  have lpo := (List.getElem?_eq_some_iff.1 z2'.go).1
  have loe := own_lt z2'.e
  subst hxg; subst hxl
  rcases loop31c (H0 := H) (prot := prot) hn5 z2' n 0 (by omega) (fun x hx => by omega) with ⟨⟨x, x1, x2⟩, y⟩ | ⟨x1, y⟩
  ·rw [if_neg (fun h => by have := h.2 x (by rw [← hn]; exact x1); omega)]
   subst hHQ; subst hHB; subst hHA; subst hHP; subst hHX; subst hxo
   exact f31_F_2 all3 g3 hck rfl g3 i1 j1' p1 h3h rfl q1 r1 (by omega) rfl (by omega) (by omega) rfl t1 z1 y
  ·rw [if_pos ⟨rfl, fun c hc => x1 c (by rw [hn]; exact hc)⟩]
   obtain ⟨HC, hHC⟩ : ∃ HC, HC = H7 ++ [AObj.cells (repCells [.int .i64 0] n) 3 (repCells [.int .i64 0] n).length .row] := ⟨_, rfl⟩
   have sC : Stay none H7 HC := by rw [hHC]; exact Stay.app none H7 _
   have lC : HC.length = H7.length + 1 := by rw [hHC, List.length_append, List.length_singleton]
   have m : Own HC 3 1 (.slice (some ⟨H7.length, 0, some (n * 1)⟩) n n) (some H7.length) n (il (faL (fun _ => 0) n)) := by
    have := own_mk (e := 3) hn0 H7 (.int .i64 0)
    rw [hHC, ← rep0]
    have e : List.replicate n (Value.int .i64 0) = repCells [.int .i64 0] n := by
     have := rep_map (fun n => Value.int .i64 ((n : Nat) : Int)) 0 n
     rw [show Value.int .i64 0 = (fun n => Value.int .i64 ((n : Nat) : Int)) 0 from rfl, this, List.map_replicate]
    rw [← e]
    rw [← e] at this
    exact this
   obtain ⟨HD, hHD⟩ : ∃ HD, HD = HC ++ [vo [.slice none 0 0] 22] := ⟨_, rfl⟩
   have sD : Stay none HC HD := by rw [hHD]; exact Stay.app none HC _
   have lD : HD.length = H7.length + 2 := by rw [hHD, List.length_append, List.length_singleton]; omega
   have gD : HD[HC.length]? = some (.cells [.slice none 0 0] 22 1 .var) := by rw [hHD]; exact append_get.1
   obtain ⟨xd, hxd⟩ : ∃ xd : Value, xd = .slice (some ⟨H7.length, 0, some (n * 1)⟩) n n := ⟨_, rfl⟩
   rw [← hxd] at m
   obtain ⟨H9, u1, u2, u3, u4⟩ := var_put (w := xd) gD (prot := H.length) (by omega) (by rw [hxd]; rfl)
   obtain ⟨HF, hHF⟩ : ∃ HF, HF = H9 ++ [vo [.nilFunc] 82] := ⟨_, rfl⟩
   have sF : Stay none H9 HF := by rw [hHF]; exact Stay.app none H9 _
   have lF : HF.length = H7.length + 3 := by rw [hHF, List.length_append, List.length_singleton]; omega
   have gF : HF[H9.length]? = some (.cells [.nilFunc] 82 1 .var) := by rw [hHF]; exact append_get.1
   obtain ⟨H10, v1, v2, v3, v4⟩ := var_put (w := fGr HC.length HA.length H9.length (H2.length + 2)) gF (prot := H.length) (by omega) rfl
   have s7 : Stay none H7 H10 := ((((sC.trans sD).over u3 (fun id e => by have := Option.some.inj e; omega)).trans sF).over v3 (fun id e => by have := Option.some.inj e; omega))
   have k1 : H10[HC.length]? = some (.cells [xd] 22 1 .var) := by
    rw [v3.2 _ (by omega) (fun e => by have := Option.some.inj e; omega), sF.2 _ (by omega) (by simp)]; exact u2
   have keep : ∀ q x, H7[q]? = some x → H10[q]? = some x := fun q x h => by
    rw [s7.2 q (List.getElem?_eq_some_iff.1 h).1 (by simp)]; exact h
   have m10 : Own H10 3 1 xd (some H7.length) n (il (faL (fun _ => 0) n)) :=
    (((m.stay sD (fun _ _ h => by cases h)).stay u3 (fun id e1 e2 => by cases e1; have := Option.some.inj e2; omega)).stay sF (fun _ _ h => by cases h)).stay v3 (fun id e1 e2 => by cases e1; have := Option.some.inj e2; omega)
   have hM : Mine H2.length H7 xo n (gT k xs bs) := ⟨.inl ⟨r', o', H5.length, z2'.out⟩⟩
   have r10 : RowsA H10 xo n (gT k xs bs) H7.length := (mine_rows hM (Nat.le_refl _)).stay s7
   have hw : WG (fGr HC.length HA.length H9.length (H2.length + 2)) H.length H10 n (gT k xs bs) (fun c => gW k xs bs c + 1) (gE k xs bs) xd xo (.slice (some ⟨H2.length, 0, some (n * 1)⟩) n n) H7.length H2.length HC.length HA.length H9.length (H2.length + 2) (fun _ => 0) :=
    ⟨⟨k1, keep _ _ z2'.go, v2, m10, r10, by omega, by omega, by omega, by omega, fun _ _ => .inl rfl⟩, keep _ _ z2'.ge, z2'.e.stay s7 (fun _ _ h => by cases h), by omega, by omega⟩
   have hT : ∀ c d, d ∈ gT k xs bs c → d < n ∧ d ≠ c ∧ gR k xs bs d < gR k xs bs c := fun c d h => by
    obtain ⟨a1, a2, a3, a4⟩ := gT_abv hG h
    exact ⟨by omega, a4, gR_ok.ge c d a3 a2 a4 a1⟩
   have hT2 : ∀ c, (gT k xs bs c).length ≤ 1000000 := fun c => by
    have := oAll_len (lc := Lc (gU k xs bs)) (R := inL k xs (uB k xs bs)) (fun j => by have := inL_len k xs (uB k xs bs) j; omega) bs.length 0 0 (fun _ => []) (fun _ => Nat.le_refl _) c
    unfold gT
    omega
   have hnx := gW_next hG
   have hwl : ∀ c, c < n → gW k xs bs c ≤ 1000 := fun c hc => by have := gW_le hG (c := c) (by omega); omega
   rw [← hn] at hnx
   obtain ⟨H11, w1⟩ := loop31d hn5 hnx hT hT2 hwl (fun _ _ => rfl) (H0 := H) (by omega) (prot := prot) n 0 (-1) _ H10 (by omega) hw rfl
   rw [hn] at w1
   rw [← hn] at w1
   rw [← hn]
   subst hHF; subst hHD; subst hHC; subst hHQ; subst hHB; subst hHA; subst hHP; subst hHX; subst hxo; subst hxd
   exact f31_F_1 all3 g3 hck rfl g3 i1 j1' p1 h3h rfl q1 r1 (by omega) rfl (by omega) (by omega) rfl t1 z1 y (by omega) rfl (by omega) (by omega) rfl u1 rfl v1 w1
 ·rw [if_neg (fun h => h0 h.1)]
  exact f31_F_0 all3 g3 hck (by simpa using h0)
end Go.Proofs.Ythjkodbinkiifaa.Am23
set_option linter.unusedVariables false
open Go Go.Proofs.Ythjkodbinkiifaa.Am
namespace Go.Proofs.Ythjkodbinkiifaa.Am23
section
variable {x0 x1 : ByteArray}
variable {H : AHeap}
variable {prot : Nat}
variable {x17 : Int}
theorem f28_F_0 (h1 : ((↑x0.size : Int) != (↑x1.size : Int)) = true) (h2 : (↑x0.size : Int) < (↑x1.size : Int)) : callInf cfg 28 [.string x0, .string x1] prot H = some (Value.int .i64 (-1), H) :=
 fn_of2 a28 [.e, .e, .e, .b true, .e, .e, .e, .b true] (ai h1 (ai (decide_eq_true h2) (Eq.refl ((vI (-1), H) : Value × AHeap)))) (by kernel_rfl) rfl
theorem f28_F_1 (h1 : ((↑x0.size : Int) != (↑x1.size : Int)) = true) (h2 : ¬((↑x0.size : Int) < (↑x1.size : Int))) : callInf cfg 28 [.string x0, .string x1] prot H = some (Value.int .i64 1, H) :=
 fn_of2 a28 [.e, .e, .e, .b true, .e, .e, .e, .b false] (ai h1 (ai (decide_eq_false h2) (Eq.refl ((vI 1, H) : Value × AHeap)))) (by kernel_rfl) rfl
theorem f28_F_2 (h1 : ((↑x0.size : Int) != (↑x1.size : Int)) = false) (h2 : cI 52 [Value.string x0, Value.string x1] H.length H = some (vI x17, H)) : callInf cfg 28 [.string x0, .string x1] prot H = some (Value.int .i64 x17, H) :=
 fn_of2 a28 [.e, .e, .e, .b false, .v (vI x17)] (ai h1 (ai h2 (Eq.refl ((vI x17, H) : Value × AHeap)))) (by kernel_rfl) rfl
end
end Go.Proofs.Ythjkodbinkiifaa.Am23
set_option linter.unusedVariables false
open Go Go.Proofs.Ythjkodbinkiifaa.Am
namespace Go.Proofs.Ythjkodbinkiifaa.Am23
section
variable {x0 x1 : ByteArray}
variable {H : AHeap}
variable {prot : Nat}
variable {x7 : Int}
theorem f52_F_0 (h1 : cI 70 [Value.string x0, Value.string x1] H.length H = some (vI x7, H)) : callInf cfg 52 [.string x0, .string x1] prot H = some (Value.int .i64 x7, H) :=
 fn_of2 a52 [.v (vI x7)] (ai h1 (Eq.refl ((vI x7, H) : Value × AHeap))) (by kernel_rfl) rfl
end
end Go.Proofs.Ythjkodbinkiifaa.Am23
set_option linter.unusedVariables false
open Go Go.Proofs.Ythjkodbinkiifaa.Am
namespace Go.Proofs.Ythjkodbinkiifaa.Am23
section
variable {x0 x1 : ByteArray}
variable {H : AHeap}
variable {prot : Nat}
variable {x7 : Int}
theorem f70_F_0 (h1 : acall { P := cfg.P, ext := cfg.ext, cl := callInf cfg, lp := lpInf, nt := a70.nt, prot := H.length, mt := mtOf cfg, room := true } (Value.func (Fn.func 78) #[] #[]) [Value.string x0, Value.string x1] H = some (vI x7, H)) : callInf cfg 70 [.string x0, .string x1] prot H = some (Value.int .i64 x7, H) :=
 fn_of2 a70 [.v (vI x7)] (ai h1 (Eq.refl ((vI x7, H) : Value × AHeap))) (by kernel_rfl) rfl
end
end Go.Proofs.Ythjkodbinkiifaa.Am23
