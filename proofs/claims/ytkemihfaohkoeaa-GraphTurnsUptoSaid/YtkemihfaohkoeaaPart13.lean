/- A part of the proof of a given statement: S11_Z, P11_4, P11_13, Law11_4, P11_3, Law11_3. No condition. -/
import Derived.Test.YtkemihfaohkoeaaPart12
namespace Go.Proofs.Ytkemihfaohkoeaa.Am11
open Go Go.Proofs.Ytkemihfaohkoeaa.Am
theorem loop15c {B : Nat} {x0 : Value} {N : Nat} {r : Nat → Value} {n : Nat → Nat} {o : Nat → Option Nat} (hD : Dis N o) {prot : Nat} (hp : ∀ j, j < N → ∀ a, o j = some a → prot ≤ a) (hpB : prot ≤ B) (hN : N ≤ 1000000) {H0 : AHeap} (hn : ∀ i, i < N → n i ≤ 1000000000) : ∀ (d i : Nat) (x3 : Value) (o3 : Option Nat) (g : Nat → Value) (og : Nat → Option Nat) (H : AHeap), i + d = N → Gro B H x0 N r n o i i x3 o3 g og →
    ∃ y o2 g2 og2 H', lpInf (lpOf cfg a15 2 prot H0) ([x0, x3, .int .i64 i], H) = some (.exit 4, [x0, y], H') ∧ Gro B H' x0 N r n o N N y o2 g2 og2
  | 0, i, x3, o3, g, og, H, hi, hG => by
    have he : i = N := by omega
    subst he
    refine ⟨x3, o3, g, og, H, ?_, hG⟩
    obtain ⟨_, _, rfl⟩ := rows_len hG.rd
    obtain ⟨_, _, rfl⟩ := hG.x3.len
    exact lp_last (f15_L2_1 (by omega))
  | d + 1, i, x3, o3, g, og, H, hi, hG => by
    have hiN : i < N := by omega
    obtain ⟨id, L, a1, a2⟩ := rows_at hG.rd hiN
    have hri := hG.rx i (Nat.le_refl _) hiN
    have hG1 : Gro B H x0 N r n o i (i + 1) x3 o3 g og := ⟨hG.rd, hG.low, fun j hj hjN => hG.rx j (by omega) hjN, hG.gk, hG.x3, hG.o3, hG.lt, hG.le, hG.dis⟩
    obtain ⟨y, o2, H2, z1, z2, z3, z4, z5⟩ := loop15d hD hp hpB hN (H0 := H0) hiN (hn i hiN) 40 0 (r i) (o i) H (by omega) hG1 hri.gk (fun a ha => .inl ha) (fun j hj a ha e => by
      rcases hG.dis j hj a ha with h | h
      · exact hD j i (by omega) hiN (by omega) a h e
      · have := hG.lt i hiN a e; omega)
    have hyl := z3.glen
    have hyc : [y].all isCell = true := by obtain ⟨_, _, rfl⟩ := hyl; rfl
    have hle := z2.le
    obtain ⟨a', c', o'', H3, s1, s2, s3, s4, s5, s6⟩ := own_app T22 z2.x3 (ecs := [y]) rfl hyc (prot := prot) (room := true) (fun id h => by have := z2.o3 id h; omega) (by omega) (by omega) (L := 1 * 1) rfl (el := [y].length) rfl
    have h3o : ∀ b, o3 = some b → o'' = b := s6
    have hob : B ≤ o'' := by
      cases ho : o3 with
      | none => have := s5 ho; omega
      | some b => rw [s6 b ho]; exact z2.o3 b ho
    have hmap : (List.range i).map g ++ [y] = (List.range (i + 1)).map (fun j => if j = i then y else g j) := by
      have e1 : (List.range i).map g = (List.range i).map (fun j => if j = i then y else g j) := by
        refine List.map_congr_left fun j hj => ?_
        have := List.mem_range.1 hj
        rw [if_neg (by omega)]
      rw [List.range_succ, List.map_append, e1, List.map_singleton, if_pos rfl]
    rw [hmap] at s2
    have hG3 : Gro B H3 x0 N r n o (i + 1) (i + 1) (.slice a' (i + 1) c') (some o'') (fun j => if j = i then y else g j) (fun j => if j = i then o2 else og j) := by
      refine ⟨?_, z2.low, fun j hj hjN => stay_rx z2.x3 s3 (z2.rx j hj hjN), fun j hj => ?_, s2, fun id h => by cases h; exact hob, z2.lt, Nat.le_trans hle s3.1, fun j hj a ha => ?_⟩
      · obtain ⟨cs, c1, c2⟩ := z2.rd
        exact ⟨cs, c1.stayLow z2.low s3 z2.o3, c2⟩
      · by_cases e : j = i
        · subst e
          rw [if_pos rfl, if_pos rfl]
          exact stay_gk z2.x3 s3 z3
        · rw [if_neg e, if_neg e]
          exact stay_gk z2.x3 s3 (z2.gk j (by omega))
      · by_cases e : j = i
        · subst e
          rw [if_pos rfl] at ha
          exact z4 a ha
        · rw [if_neg e] at ha
          exact z2.dis j (by omega) a ha
    obtain ⟨y', o2', g2, og2, H', w1, w2⟩ := loop15c hD hp hpB hN (H0 := H0) hn d (i + 1) _ _ _ _ H3 (by omega) hG3
    refine ⟨y', o2', g2, og2, H', ?_, w2⟩
    obtain ⟨_, _, rfl⟩ := rows_len hG.rd
    obtain ⟨_, _, rfl⟩ := hG.x3.len
    obtain ⟨_, _, hre⟩ := hri.len
    obtain ⟨_, _, rfl⟩ := hyl
    rw [hre] at a2 z1
    exact lp_next (f15_L2_0 (by omega) a1 a2 z1 s1 (fit64 (by omega) (by omega))) w1

theorem il_rep (k : Nat) (c : Int) : il (List.replicate k c) = List.replicate k (.int .i64 c) := by unfold il; rw [List.map_replicate]
theorem loop15f {B : Nat} {x0 x3 : Value} {N : Nat} {r : Nat → Value} {n : Nat → Nat} {o : Nat → Option Nat} (hN : N ≤ 1000000) {H0 : AHeap} {prot : Nat} {o3 : Option Nat} {g : Nat → Value} {og : Nat → Option Nat} {H : AHeap} (hG : Gro B H x0 N r n o N N x3 o3 g og) {i : Nat} (hi : i < N) (hn : n i ≤ 1000000000) : ∀ (d k : Nat), k + d = n i + 40 →
    lpInf (lpOf cfg a15 5 prot H0) ([x0, x3, .int .i64 i, .int .i64 k], H) = some (.exit 10, [x0, .tuple #[], x3, .int .i64 i], H)
  | 0, k, hk => by
    have h3 : ∃ cs, Rd H 34 1 x3 N cs ∧ ∀ j, j < N → cs[j]? = some (g j) := ⟨_, hG.x3.rd, fun j hj => by rw [List.getElem?_map, List.getElem?_range hj]; rfl⟩
    obtain ⟨i1, L1, a1, a2⟩ := rows_at h3 hi
    have hK := hG.gk i hi
    obtain ⟨_, _, rfl⟩ := rows_len hG.rd
    obtain ⟨_, _, rfl⟩ := rows_len h3
    obtain ⟨_, _, hge⟩ := hK.glen
    rw [hge] at a2
    exact lp_last (f15_L5_8 a1 a2 (by omega))
  | d + 1, k, hk => by
    have h3 : ∃ cs, Rd H 34 1 x3 N cs ∧ ∀ j, j < N → cs[j]? = some (g j) := ⟨_, hG.x3.rd, fun j hj => by rw [List.getElem?_map, List.getElem?_range hj]; rfl⟩
    obtain ⟨i1, L1, a1, a2⟩ := rows_at h3 hi
    obtain ⟨i2, L2, b1, b2⟩ := rows_at hG.rd hi
    have hK := hG.gk i hi
    obtain ⟨hg, hr⟩ := hK.rd
    have ih := loop15f hN (H0 := H0) (prot := prot) hG hi hn d (k + 1) (by omega)
    have hml : (mk n i).length = n i := by unfold mk; rw [il_rep, List.length_replicate]
    have f1 : Fit .i64 (1000 + (i : Int)) := fit64 (by omega) (by omega)
    have f2 : Fit .i64 (2000 + (i : Int)) := fit64 (by omega) (by omega)
    have fk : Fit .i64 ((k : Int) + 1) := fit64 (by omega) (by omega)
    obtain ⟨_, _, hge⟩ := hK.glen
    obtain ⟨_, _, hre⟩ := hK.rl
    obtain ⟨_, _, rfl⟩ := rows_len hG.rd
    obtain ⟨_, _, rfl⟩ := rows_len h3
    by_cases hk2 : k < n i
    · have e1 : (mk n i ++ gw 40 i)[k]? = some (.int .i64 (1000 + (i : Int))) := by
        rw [List.getElem?_append_left (by omega)]
        unfold mk
        rw [il_rep, List.getElem?_replicate, if_pos hk2]
      have e2 : (mk n i)[k]? = some (.int .i64 (1000 + (i : Int))) := by
        unfold mk
        rw [il_rep, List.getElem?_replicate, if_pos hk2]
      obtain ⟨i3, L3, c1, c2⟩ := rd_at T34 hg e1
      obtain ⟨i4, L4, d1, d2⟩ := rd_at T34 (hr (by omega)) e2
      rw [hge] at a2 c1
      rw [hre] at b2 d1
      exact lp_next (f15_L5_4 a1 a2 (by omega) b1 b2 (by omega) b1 b2 d1 d2 f1 (by simp) a1 a2 c1 c2 (by simp) b1 b2 (by omega) fk) ih
    · have e1 : (mk n i ++ gw 40 i)[k]? = some (.int .i64 (2000 + (i : Int))) := by
        rw [List.getElem?_append_right (by omega), hml]
        unfold gw
        rw [il_rep, List.getElem?_replicate, if_pos (by omega)]
      obtain ⟨i3, L3, c1, c2⟩ := rd_at T34 hg e1
      rw [hge] at a2 c1
      rw [hre] at b2
      exact lp_next (f15_L5_6 a1 a2 (by omega) b1 b2 (by omega) b1 b2 (by omega) a1 a2 c1 c2 f2 (by simp) fk) ih
theorem loop15e {B : Nat} {x0 x3 : Value} {N : Nat} {r : Nat → Value} {n : Nat → Nat} {o : Nat → Option Nat} (hN : N ≤ 1000000) {H0 : AHeap} {prot : Nat} {o3 : Option Nat} {g : Nat → Value} {og : Nat → Option Nat} {H : AHeap} (hG : Gro B H x0 N r n o N N x3 o3 g og) (hn : ∀ i, i < N → n i ≤ 1000000000) : ∀ (d i : Nat), i + d = N →
    lpInf (lpOf cfg a15 4 prot H0) ([x0, x3, .int .i64 i], H) = some (.exit 8, [.tuple #[]], H)
  | 0, i, hi => by
    obtain ⟨_, _, rfl⟩ := rows_len hG.rd
    obtain ⟨_, _, rfl⟩ := hG.x3.len
    exact lp_last (f15_L4_2 (by omega))
  | d + 1, i, hi => by
    have hf := loop15f hN (H0 := H0) (prot := prot) hG (show i < N by omega) (hn i (by omega)) (n i + 40) 0 (by omega)
    have ih := loop15e hN (H0 := H0) (prot := prot) hG hn d (i + 1) (by omega)
    obtain ⟨_, _, rfl⟩ := rows_len hG.rd
    obtain ⟨_, _, rfl⟩ := hG.x3.len
    exact lp_next (f15_L4_0 (by omega) hf (fit64 (by omega) (by omega))) ih

theorem c15 {x0 : Value} {N : Nat} {r : Nat → Value} {n : Nat → Nat} {o : Nat → Option Nat} {V : Nat → List Int} (hD : Dis N o) {prot : Nat} (hp : ∀ j, j < N → ∀ a, o j = some a → prot ≤ a) (hN : N ≤ 1000000) (hn : ∀ i, i < N → n i ≤ 1000000000) {H : AHeap} (hpH : prot ≤ H.length) (hr : Rows H x0 N r n o V) :
    ∃ H', callInf cfg 15 [x0] prot H = some (.bool true, H') := by
  obtain ⟨H1, y1, y2, y3⟩ := loop15a hD hp hN (H0 := H) (x3 := .slice none 0 0) ⟨_, _, _, rfl⟩ hn N 0 V H (by omega) hr (fun j hj => by omega)
  have hG : Gro H1.length H1 x0 N r n o 0 0 (.slice none 0 0) none (fun _ => .slice none 0 0) (fun _ => none) := by
    refine ⟨y2.rd, ?_, fun j _ hj => y2.rx j hj, fun j hj => (by omega), own_nil, fun id h => (by cases h), fun j hj a ha => ?_, Nat.le_refl _, fun j hj => (by omega)⟩
    · obtain ⟨cs, c1, _⟩ := y2.rd
      exact c1.low
    · have := y2.rx j hj
      rw [ha] at this
      exact this.lt
  obtain ⟨y, o2, g2, og2, H2, z1, z2⟩ := loop15c hD hp (by omega) hN (H0 := H) hn N 0 _ _ _ _ H1 (by omega) hG
  have he := loop15e hN (H0 := H) (prot := prot) z2 hn N 0 (by omega)
  refine ⟨H2, ?_⟩
  obtain ⟨_, _, rfl⟩ := rows_len hr.rd
  obtain ⟨_, _, rfl⟩ := z2.x3.len
  exact f15_F_0 y1 z1 he
end Go.Proofs.Ytkemihfaohkoeaa.Am11
set_option linter.unusedVariables false
open Go Go.Proofs.Ytkemihfaohkoeaa.Am
namespace Go.Proofs.Ytkemihfaohkoeaa.Am11
end Go.Proofs.Ytkemihfaohkoeaa.Am11
set_option linter.unusedVariables false
open Go Go.Proofs.Ytkemihfaohkoeaa.Am
namespace Go.Proofs.Ytkemihfaohkoeaa.Am11
theorem f13_F_0 {x0 : Int} {H : AHeap} {prot : Nat}  : callInf cfg 13 [.int .i64 x0] prot H = some (Value.int .i64 x0, H) :=
  fn_of2 a13 [] (Eq.refl ((Value.int .i64 x0, H) : Value × AHeap)) (by kernel_rfl) rfl
end Go.Proofs.Ytkemihfaohkoeaa.Am11
namespace Go.Proofs.Ytkemihfaohkoeaa.Am11
open Go Go.Proofs.Ytkemihfaohkoeaa.Am
theorem cKnows (prot : Nat) (H : AHeap) : callInf cfg 16 [] prot H = some (.bool true, H) := by
  refine callInf_body ?_
  unfold callWith
  have h : cfg.code 16 = some a16 := rfl
  rw [h]
  rfl
/-! ### Numbers of components -/
def Mu (G : List (List Int)) (u v : Nat) : Prop := Rch G u v ∧ Rch G v u
theorem Mu.symm {G : List (List Int)} {u v : Nat} (h : Mu G u v) : Mu G v u := ⟨h.2, h.1⟩
theorem Mu.trans {G : List (List Int)} {u v w : Nat} (h : Mu G u v) (k : Mu G v w) : Mu G u w := ⟨h.1.trans k.1, k.2.trans h.2⟩
/-- Numbers rise by one at most. -/
def pr : List Nat → Nat → Option Nat
  | [], m => some m
  | x :: l, m => if x ≤ m then pr l (max m (x + 1)) else none
structure NI (G : List (List Int)) (v : Nat) (out : List Nat) (n : Nat) : Prop where
  l : out.length = v
  b : ∀ i, i < v → out.getD i 0 < n
  e : ∀ u w, u < v → w < v → (out.getD u 0 = out.getD w 0 ↔ u = w ∨ Mu G u w)
  p : pr out 0 = some n
/-! ### The graph that is made -/
end Go.Proofs.Ytkemihfaohkoeaa.Am11
set_option linter.unusedVariables false
open Go Go.Proofs.Ytkemihfaohkoeaa.Am
namespace Go.Proofs.Ytkemihfaohkoeaa.Am11
theorem f3_F_0 {x0a : Option Addr} {x0n x0c : Nat} {H : AHeap} {prot : Nat} {x9a : Option Addr} {x9n x9c : Nat} {H1 : AHeap} {x12aa : Option Addr} {x12an x12ac : Nat} {x12b : Int} {H2 : AHeap} {x17aa : Option Addr} {x17an x17ac : Nat} {x17b : Int} {H3 : AHeap} {x22 : Bool} {x25 : Int} {x32 x36 : Bool} {H4 : AHeap} {x39 : Bool} (h1 : callInf cfg 9 [Value.slice x0a x0n x0c] (List.length H) H = some (Value.slice x9a x9n x9c, H1)) (h2 : callInf cfg 10 [Value.slice x9a x9n x9c] (List.length H) H1 = some (Value.tuple { toList := [Value.slice x12aa x12an x12ac, Value.int .i64 x12b] }, H2)) (h3 : callInf cfg 11 [Value.slice x0a x0n x0c] (List.length H) H2 = some (Value.tuple { toList := [Value.slice x17aa x17an x17ac, Value.int .i64 x17b] }, H3)) (h4 : callInf cfg 12 [Value.slice x12aa x12an x12ac, Value.slice x17aa x17an x17ac] (List.length H) H3 = some (Value.bool x22, H3)) (h5 : x22 = true) (h6 : callInf cfg 13 [Value.int .i64 x12b] (List.length H) H3 = some (Value.int .i64 x25, H3)) (h7 : (x25 == x17b) = true) (h8 : callInf cfg 14 [Value.slice x9a x9n x9c, Value.slice x0a x0n x0c] (List.length H) H3 = some (Value.bool x32, H3)) (h9 : x32 = true) (h10 : callInf cfg 15 [Value.slice x12aa x12an x12ac] (List.length H) H3 = some (Value.bool x36, H4)) (h11 : x36 = true) (h12 : callInf cfg 16 [] (List.length H) H4 = some (Value.bool x39, H4)) : callInf cfg 3 [.slice x0a x0n x0c] prot H = some (Value.bool x39, H) :=
  fn_of2 a3 [.r (.slice x9a x9n x9c) H1, .r (.tuple #[.slice x12aa x12an x12ac, .int .i64 x12b]) H2, .r (.tuple #[.slice x17aa x17an x17ac, .int .i64 x17b]) H3, .v (.bool x22), .b true, .b true, .v (.int .i64 x25), .b true, .b true, .e, .b true, .b true, .b true, .b true, .v (.bool x32), .b true, .b true, .b true, .r (.bool x36) H4, .b true, .b true, .v (.bool x39), .b true] (ai h1 (ai h2 (ai h3 (ai h4 (ai h5 (ai h5 (ai h6 (ai h5 (ai h5 (ai h5 (ai h7 (ai h7 (ai h7 (ai h8 (ai h7 (ai h9 (ai h9 (ai h10 (ai h9 (ai h11 (ai h12 (ai h11 (Eq.refl ((Value.bool x39, H) : Value × AHeap)))))))))))))))))))))))) (by kernel_rfl) rfl
end Go.Proofs.Ytkemihfaohkoeaa.Am11
namespace Go.Proofs.Ytkemihfaohkoeaa.Am11
open Go Go.Proofs.Ytkemihfaohkoeaa.Am
theorem mine_apart {B : Nat} {x : Value} {N : Nat} {T : Nat → List Nat} {H : AHeap} {prot : Nat} (h : Mine B H x N T) (hB : prot ≤ B) (hN : N ≤ 512) (hb : ∀ j, (T j).length ≤ 1048576) (hpH : prot ≤ H.length) : ∃ H', callInf cfg 15 [x] prot H = some (.bool true, H') := by
  rcases h.ex with ⟨r, o, o3, hO⟩ | ⟨h0, id, h1, h2, h3⟩
  · refine c15 (N := N) (r := r) (n := fun j => (T j).length) (o := o) (V := fun j => nl (T j)) hO.dis (fun j hj a ha => Nat.le_trans hB (hO.bo j hj a ha)) (by omega) (fun i _ => by have := hb i; omega) hpH ⟨⟨_, hO.x3.rd, fun j hj => range_at r hj⟩, fun j hj => (hO.rx j hj).rx⟩
  · obtain ⟨cs, c1, _⟩ := h.rd
    subst h0
    exact c15 (N := 0) (r := fun _ => .slice none 0 0) (n := fun _ => 0) (o := fun _ => none) (V := fun _ => []) (fun i j hi => by omega) (fun j hj => by omega) (by omega) (fun i hi => by omega) hpH ⟨⟨cs, c1, fun j hj => by omega⟩, fun j hj => by omega⟩
theorem law3 {G : List (List Int)} {x0 : Value} (hs : Short8 G) (hE : lens G ≤ 1048576) (prot : Nat) (H : AHeap) (hg : Gr H x0 G) : callInf cfg 3 [x0] prot H = some (.bool true, H) := by
  obtain ⟨x, H1, a1, a2, a3⟩ := c9 hs H.length hg
  have hss := hs.short
  by_cases h : chk G = 0
  · have hG := good_of hss h
    have h5 := hG.1
    have hT : ∀ j, (turnT G j).length ≤ 1048576 := fun j => Nat.le_trans (turn_len j) hE
    obtain ⟨t, H2, b1, b2, b3⟩ : ∃ x' H', callInf cfg 10 [x] H.length H1 = some (.tuple #[x', .int .i64 0], H') ∧ Mine H1.length H' x' G.length (turnT G) ∧ Stay none H1 H' := by
      rcases c10 hss hE H.length a2.gr with ⟨h1, _⟩ | ⟨_, h2⟩
      · exact absurd h h1
      · exact h2
    have s2 := a3.trans b3
    obtain ⟨u, H3, d1, d2, d3⟩ : ∃ x' H', callInf cfg 11 [x0] H.length H2 = some (.tuple #[x', .int .i64 0], H') ∧ Mine H2.length H' x' G.length (turnT G) ∧ Stay none H2 H' := by
      rcases c11 hss hE H.length (hg.stay s2) with ⟨h1, _⟩ | ⟨_, h2⟩
      · exact absurd h h1
      · exact h2
    have s3 := s2.trans d3
    have hb2 := b2.stay d3
    have h12 := c12 h5 (fun j _ => by have := hT j; omega) H.length hb2 d2
    have h14 := c14 hs H.length (a2.stay (b3.trans d3)) (hg.stay s3)
    obtain ⟨H4, h15⟩ := mine_apart hb2 a3.1 h5 hT s3.1
    have hk := cKnows H.length H4
    obtain ⟨cs, c1, _⟩ := hb2.rd
    obtain ⟨ds, e1, _⟩ := d2.rd
    obtain ⟨_, _, rfl⟩ := c1.len
    obtain ⟨_, _, rfl⟩ := e1.len
    obtain ⟨_, _, rfl⟩ := a2.gr.len
    obtain ⟨_, _, rfl⟩ := hg.len
    exact f3_F_0 a1 b1 d1 h12 rfl f13_F_0 (by simp) h14 rfl h15 rfl hk
  · have b1 : callInf cfg 10 [x] H.length H1 = some (.tuple #[.slice none 0 0, .int .i64 (chk G)], H1) := by
      rcases c10 hss hE H.length a2.gr with ⟨_, h1⟩ | ⟨h1, _⟩
      · exact h1
      · exact absurd h1 h
    have d1 : callInf cfg 11 [x0] H.length H1 = some (.tuple #[.slice none 0 0, .int .i64 (chk G)], H1) := by
      rcases c11 hss hE H.length (hg.stay a3) with ⟨_, h1⟩ | ⟨h1, _⟩
      · exact h1
      · exact absurd h1 h
    have h12 : callInf cfg 12 [.slice none 0 0, .slice none 0 0] H.length H1 = some (.bool true, H1) :=
      f12_F_1 (by simp) (lp_last (f12_L0_2 (by omega)))
    have h14 := c14 hs H.length a2 (hg.stay a3)
    obtain ⟨H4, h15⟩ : ∃ H', callInf cfg 15 [.slice none 0 0] H.length H1 = some (.bool true, H') :=
      c15 (N := 0) (r := fun _ => .slice none 0 0) (n := fun _ => 0) (o := fun _ => none) (V := fun _ => []) (fun i j hi => by omega) (fun j hj => by omega) (by omega) (fun i hi => by omega) a3.1 ⟨⟨[], ⟨rfl, .inl ⟨rfl, .inl rfl⟩⟩, fun j hj => by omega⟩, fun j hj => by omega⟩
    have hk := cKnows H.length H4
    obtain ⟨_, _, rfl⟩ := a2.gr.len
    obtain ⟨_, _, rfl⟩ := hg.len
    exact f3_F_0 a1 b1 d1 h12 rfl f13_F_0 (by simp) h14 rfl h15 rfl hk
end Go.Proofs.Ytkemihfaohkoeaa.Am11
